/- The walk of css.Print. -/
import Derived.Test.YtcpenjbacgjjeaaDoorCssWalk
import Derived.Maps.AppendAt
namespace Go.Proofs.YtcpenjbacgjjeaaDoor
open Go.RowKit
open Go.Proofs.Qw

/-- A text as a value. -/
def strV (l : List UInt8) : Value := .string ⟨l.toArray⟩
theorem Tryd.infoStr : (Tryd.prog.info? 9).map (fun i => (i.zero, i.size, i.bytes)) = some (some (.string ⟨#[]⟩), 1, 16) := by kernel_rfl
/-- The three boxes of css.Print: what is set, what is cleared, the row. -/
def Prt (n : Nat) (x y : Int) (l : List (List UInt8)) (W : World) : Prop :=
  Boxed W n 3 (.int .i64 x) ∧ Boxed W (n + 1) 3 (.int .i64 y) ∧ n + 3 ≤ W.heap.size ∧ ∃ v, Boxed W (n + 2) 38 v ∧ W.ownsRow n 9 1 v l.length (l.map strV)

theorem Prt.added {n : Nat} {x y : Int} {l : List (List UInt8)} {W w1 : World} {v v' : Value} {tmp : Obj} {s : List UInt8} (hb0 : Boxed W n 3 (.int .i64 x)) (hb1 : Boxed W (n + 1) 3 (.int .i64 y)) (hz : n + 3 ≤ W.heap.size) (hv : Boxed W (n + 2) 38 v)
    (hrow : W.ownsRow n 9 1 v l.length (l.map strV)) (hown' : w1.ownsRow n 9 1 v' (l.length + 1) (l.map strV ++ [strV s])) (hgrow : (W.alloc tmp).grownBy w1 v.ownBlock) :
    Prt n x y (l ++ [s]) (w1.setCell ⟨n + 2, 0, none⟩ v') ∧ Below n W (w1.setCell ⟨n + 2, 0, none⟩ v') := by
  obtain ⟨_, hv2, hr2, _, hb2⟩ := hv.appended (by decide) hrow (by omega) (by omega) hown' hgrow
  have g0 : Boxed w1 n 3 (.int .i64 x) := (hb0.alloc tmp).kept hgrow (hb0.not_row (by decide) hrow)
  have g1 : Boxed w1 (n + 1) 3 (.int .i64 y) := (hb1.alloc tmp).kept hgrow (hb1.not_row (by decide) hrow)
  refine ⟨⟨g0.other (by omega) _, g1.other (by omega) _, Nat.le_trans hz hb2.size, v', hv2, ?_⟩, hb2⟩
  rw [List.length_append, List.map_append]
  exact hr2

theorem cell_one_at {W : World} {k : Nat} (h : W.heap.size = k) (a : Value) (t : TypeId) : ∀ j u, [a][j]? = some u → (W.alloc (.cells #[a] t)).cell? ((⟨k, 0, none⟩ : Addr).add j) = some u := h ▸ cell_one_new W a t
theorem Prt.below {n : Nat} {x y : Int} {l : List (List UInt8)} {W W' : World} (h : Prt n x y l W) (hb : Below W.heap.size W W') : Prt n x y l W' := by
  obtain ⟨b0, b1, hz, v, hv, hrow⟩ := h
  exact ⟨b0.kept (grown_of_below hb) (by simp), b1.kept (grown_of_below hb) (by simp), Nat.le_trans hz hb.size, v, hv.kept (grown_of_below hb) (by simp), hrow.kept (grown_of_below hb) (by cases v <;> simp [Value.ownBlock]; split <;> simp)⟩
/-- What an append to one's own row leaves, behind a new block with what is appended. -/
theorem below_append {W w1 : World} {n₀ : Nat} {e : TypeId} {size k : Nat} {v : Value} {xs : List Value} {tmp : Obj} (hrow : W.ownsRow n₀ e size v k xs) (hn : n₀ ≤ W.heap.size) (hg : (W.alloc tmp).grownBy w1 v.ownBlock) : Below n₀ W w1 :=
  ((Below.refl n₀ W).alloc hn tmp).grown hg (by simp; omega) fun j ej => (hrow.lt j ej).1

set_option maxRecDepth 200000 in
set_option maxHeartbeats 2000000 in
theorem put_any (n : Nat) (x y b : Int) (nm on off : List UInt8) (l : List (List UInt8)) (W : World) (hl : l.length ≤ 10) (h1 : nm.length ≤ 1000) (h2 : on.length ≤ 1000) (h3 : off.length ≤ 1000) (hP : Prt n x y l W) :
    Calls Tryd.prog 20 #[.int .i64 b, .string ⟨nm.toArray⟩, .string ⟨on.toArray⟩, .string ⟨off.toArray⟩, .pointer (some ⟨n, 0, none⟩), .pointer (some ⟨n + 2, 0, none⟩), .pointer (some ⟨n + 1, 0, none⟩)] W fun e w' =>
      e = .returned (.tuple #[]) ∧ Prt n x y (putF x y b nm on off l) w' ∧ Below n W w' := by
  have HP := Lib.hid hP
  obtain ⟨b0, b1, hz, v, hv, hrow⟩ := hP
  have e0 := b0.cell
  have e1 := b1.cell
  have e2 := hv.cell
  have f2 := hv.frozen
  obtain ⟨i0, hi, hz0, hz1, hz2⟩ := info_parts Tryd.infoStr
  have hT : (⟨nm.toArray⟩ ++ ⟨#[58, 32]⟩ ++ ⟨on.toArray⟩ : ByteArray) = ⟨(nm ++ 58 :: 32 :: on).toArray⟩ := by apply ByteArray.ext; simp
  have hU : (⟨nm.toArray⟩ ++ ⟨#[58, 32]⟩ ++ ⟨off.toArray⟩ : ByteArray) = ⟨(nm ++ 58 :: 32 :: off).toArray⟩ := by apply ByteArray.ext; simp
  by_cases t1 : (bits .and .i64 x b != 0) = true
  · rw [show putF x y b nm on off l = l ++ [nm ++ 58 :: 32 :: on] from if_pos t1]
    generalize nm ++ 58 :: 32 :: on = S at *
    clear hU
    go_enter Tryd.func20, Tryd.ntmps20
    go_wp2_with (at_builtin; refine wpList_append_own _ rfl _ _ 38 rfl n 9 i0 (.string ⟨#[]⟩) 1 16 Tryd.underlying38 hi hz0 hz1 hz2 rfl (by decide) _ _ _ rfl (hrow.alloc _) ⟨W.heap.size, 0, none⟩ 1 1 [strV S] rfl rfl (cell_one_new _ _ _) (by simp [Value.oneCell', strV]) (by unfold maxLen; omega) (by omega) (by simp; omega) ?_; intro v' w1 hown' hgrow _; obtain ⟨hq, hb⟩ := Prt.added b0 b1 hz hv hrow hown' hgrow; obtain ⟨g', cap', rfl⟩ := ownsRow_succ hown'; have hv1 := (hv.alloc _).kept hgrow (hv.not_row (by decide) hrow); have e3 := hv1.cell; have f3 := hv1.frozen; have HQ := Lib.hid hq; have HB := Lib.hid hb; clear hq hb hown' hgrow)
    go_end0
    exact ⟨rfl, HQ.out, HB.out⟩
  by_cases t2 : (bits .and .i64 y b != 0) = true
  · rw [show putF x y b nm on off l = l ++ [nm ++ 58 :: 32 :: off] from (if_neg t1).trans (if_pos t2)]
    have t1 : (bits .and .i64 x b != 0) = false := by simpa using t1
    generalize nm ++ 58 :: 32 :: off = S at *
    clear hT
    go_enter Tryd.func20, Tryd.ntmps20
    go_wp2_with (at_builtin; refine wpList_append_own _ rfl _ _ 38 rfl n 9 i0 (.string ⟨#[]⟩) 1 16 Tryd.underlying38 hi hz0 hz1 hz2 rfl (by decide) _ _ _ rfl (hrow.alloc _) ⟨W.heap.size, 0, none⟩ 1 1 [strV S] rfl rfl (cell_one_new _ _ _) (by simp [Value.oneCell', strV]) (by unfold maxLen; omega) (by omega) (by simp; omega) ?_; intro v' w1 hown' hgrow _; obtain ⟨hq, hb⟩ := Prt.added b0 b1 hz hv hrow hown' hgrow; obtain ⟨g', cap', rfl⟩ := ownsRow_succ hown'; have hv1 := (hv.alloc _).kept hgrow (hv.not_row (by decide) hrow); have e3 := hv1.cell; have f3 := hv1.frozen; have HQ := Lib.hid hq; have HB := Lib.hid hb; clear hq hb hown' hgrow)
    go_end0
    exact ⟨rfl, HQ.out, HB.out⟩
  · rw [show putF x y b nm on off l = l from (if_neg t1).trans (if_neg t2)]
    have t1 : (bits .and .i64 x b != 0) = false := by simpa using t1
    have t2 : (bits .and .i64 y b != 0) = false := by simpa using t2
    clear hT hU
    go_enter Tryd.func20, Tryd.ntmps20
    go_wp2
    go_end0
    exact ⟨rfl, HP.out, Below.refl _ _⟩

theorem strV_map (l : List (List UInt8)) : (l.map fun x => (⟨x.toArray⟩ : ByteArray)).map (·.data.toList) = l := by
  rw [List.map_map]; exact List.map_id' l
/-- strings.Join, of a row of one's own. -/
theorem join_any (n : Nat) (l : List (List UInt8)) (sep : List UInt8) (v : Value) (W : World) (hrow : W.ownsRow n 9 1 v l.length (l.map strV)) (hlen : (Lib.join l sep).length ≤ 140737488355328) (hl : l.length ≤ 1000) :
    Calls Tryd.prog 21 #[v, .string ⟨sep.toArray⟩] W fun e w' => e = .returned (strV (Lib.join l sep)) ∧ Below W.heap.size W w' := by
  have hcs := fun g hg => hrow.cells (g := g) hg
  obtain ⟨_, ⟨rfl, h0⟩ | ⟨g, cap, cur, rfl, hn, hh, hc, _⟩⟩ := hrow
  · have : l = [] := List.length_eq_zero_iff.1 h0
    subst this
    exact (Tryd.strings_Join_none none 0 ⟨sep.toArray⟩ W).mono fun e w' ⟨h1, h2⟩ => ⟨h1, h2 ▸ Below.refl _ _⟩
  · have := Tryd.strings_Join g 0 cap (l.map fun x => (⟨x.toArray⟩ : ByteArray)) ⟨sep.toArray⟩ W (fun j x hx => by
      have h := hcs g rfl j (.string x) (by
        simp only [List.getElem?_map, Option.map_eq_some_iff] at hx ⊢
        obtain ⟨a, h1, rfl⟩ := hx
        exact ⟨a, h1, rfl⟩)
      rw [Nat.zero_add]
      rwa [show (⟨g, 0, none⟩ : Addr).add j = ⟨g, j, none⟩ by unfold Addr.add; split <;> simp_all] at h) (Array.getElem?_eq_some_iff.1 hh).1 (by simp; omega) (by simp; exact hc) (by rw [strV_map]; exact hlen)
    rw [List.length_map, strV_map] at this
    exact this

set_option maxRecDepth 200000 in
set_option maxHeartbeats 2000000 in
theorem print_any (x y : Int) (w : World) :
    Calls Tryd.prog 11 #[.int .i64 x, .int .i64 y] w fun e w' => e = .returned (strV (cssPrint x y)) ∧ Below w.heap.size w w' := by
  go_enter Tryd.func11, Tryd.ntmps11
  go_wp2_with fail
  have hP : Prt w.heap.size x y [] (((w.alloc (.cells #[.int .i64 x] 3)).alloc (.cells #[.int .i64 y] 3)).alloc (.cells #[.slice none 0 0] 38)) :=
    ⟨((Boxed.new w _ _).alloc _).alloc _, (Boxed.newAt (by simp) _ _).alloc _, by simp, .slice none 0 0, Boxed.newAt (by simp) _ _, World.ownsRow_nil _ _ _ _⟩
  refine (put_any _ _ _ _ fontWeight bold normal _ _ (by decide) (by decide) (by decide) (by decide) hP).mono ?_
  rintro e w1 ⟨rfl, h1, hb1⟩
  have hlen1 := putF_len x y 1 fontWeight bold normal []
  generalize hl1 : putF x y 1 fontWeight bold normal [] = l1 at *
  have HL1 := Lib.hid hl1
  clear hl1
  go_wp2_with fail
  refine (put_any _ _ _ _ fontStyle italic normal _ _ (by simp at hlen1; omega) (by decide) (by decide) (by decide) h1).mono ?_
  rintro e w2 ⟨rfl, h2, hb2⟩
  have hlen2 := putF_len x y 2 fontStyle italic normal l1
  generalize hl2 : putF x y 2 fontStyle italic normal l1 = l2 at *
  have HL2 := Lib.hid hl2
  have hlen : l2.length ≤ 2 := by simp at hlen1; omega
  have HB2 : Hid (Below w.heap.size w w2) := Lib.hid (((((Below.refl _ _).alloc (Nat.le_refl _) _).alloc (by simp) _).alloc (by simp; omega) _).trans (hb1.trans hb2))
  have HP := Lib.hid h2
  obtain ⟨b0, b1, hz, v, hv, hrow⟩ := h2
  have e0 := b0.cell
  have k0 : w.heap.size < w2.heap.size := by omega
  have k1 : w.heap.size + 1 < w2.heap.size := by omega
  have k2 : w.heap.size + 2 < w2.heap.size := by omega
  clear hl2 h1 hb1 hb2 hlen1 hlen2 hP b0 b1 hv hrow hz
  obtain ⟨i0, hi, hz0, hz1, hz2⟩ := info_parts Tryd.infoStr
  have hm : Hid (∀ (o : Obj), Below w2.heap.size w2 (w2.alloc o)) := Lib.hid fun o => (Below.refl _ _).alloc (Nat.le_refl _) _
  have hown := World.ownsRow_made (base := w2.heap.size) (e := 9) (size := 1) w2 #[] 0 (Nat.le_refl _) (by decide) rfl
  by_cases t4 : (bits .and .i64 x 4 != 0) = true
  · by_cases t8 : (bits .and .i64 x 8 != 0) = true
    · go_wp2_with (first | (at_builtin; refine wpList_append_own _ rfl _ _ 38 rfl w2.heap.size 9 i0 (.string ⟨#[]⟩) 1 16 Tryd.underlying38 hi hz0 hz1 hz2 rfl (by decide) _ _ _ rfl (hown.alloc _) ⟨w2.heap.size + 1, 0, none⟩ 1 1 [strV underline] rfl rfl (cell_one_at (by simp) _ _) (by simp [Value.oneCell', strV]) (by decide) (by decide) (by simp; omega) ?_; intro v3 w3 hown3 hg3 _; simp only [Nat.zero_add, List.nil_append] at hown3; have HB3 := Lib.hid ((hm.out _).trans (below_append hown (by simp) hg3)); have c3 := (HB3.out.cell (p := ⟨w.heap.size, 0, none⟩) k0).trans e0; obtain ⟨g3, cap3, rfl⟩ := ownsRow_succ hown3; clear hown hg3) | (at_builtin; refine wpList_append_own _ rfl _ _ 38 rfl w2.heap.size 9 i0 (.string ⟨#[]⟩) 1 16 Tryd.underlying38 hi hz0 hz1 hz2 rfl (by decide) _ _ _ rfl (hown3.alloc _) ⟨w3.heap.size, 0, none⟩ 1 1 [strV through] rfl rfl (cell_one_at rfl _ _) (by simp [Value.oneCell', strV]) (by decide) (by decide) (by have := HB3.out.size; simp; omega) ?_; intro v4 w4 hown4 hg4 _; have HB4 := Lib.hid (HB3.out.trans (below_append hown3 HB3.out.size hg4)); obtain ⟨g4, cap4, rfl⟩ := ownsRow_succ hown4; clear hown3 hg4))
      have HR : Hid (rowF x = [underline, through]) := Lib.hid (by simp [rowF, t4, t8])
      clear t4 t8 e0
      refine (join_any w2.heap.size [underline, through] [32] _ w4 hown4 (by decide) (by decide)).mono ?_
      rintro e w5 ⟨rfl, hb5⟩
      have HB5 := Lib.hid (Below.trans HB4.out (hb5.mono (Below.size HB4.out)))
      clear hb5
      go_wp2_with fail
      refine (put_any w.heap.size x y 12 textDeco (Lib.join [underline, through] [32]) none_ l2 w5 (by omega) (by decide) (by decide) (by decide) (HP.out.below HB5.out)).mono ?_
      rintro e w6 ⟨rfl, h6, hb6⟩
      have hlen6 := putF_len x y 12 textDeco (Lib.join [underline, through] [32]) none_ l2
      have hsum6 := put_join x y (Lib.join [underline, through] [32]) (by decide)
      rw [HL1.out, HL2.out] at hsum6
      have HB6 := Lib.hid (below_from HB2.out (HB5.out) |>.trans hb6)
      have HF : Hid (cssPrint x y = Lib.join (putF x y 12 textDeco (Lib.join [underline, through] [32]) none_ l2) [59, 32]) := Lib.hid (by rw [cssPrint, HR.out, HL1.out, HL2.out])
      generalize putF x y 12 textDeco (Lib.join [underline, through] [32]) none_ l2 = l6 at *
      obtain ⟨_, _, _, v6, hv6, hrow6⟩ := h6
      have e6 : w6.cell? ⟨w.heap.size + 1 + 1, 0, none⟩ = some v6 := hv6.cell
      clear hb6 hv6
      go_wp2_with fail
      refine (join_any w.heap.size l6 [59, 32] _ w6 hrow6 hsum6 (by omega)).mono ?_
      rintro e w7 ⟨rfl, hb7⟩
      go_wp2_with fail
      go_ret
      exact ⟨by rw [HF.out]; rfl, below_from HB6.out hb7⟩
    · have t8 : (bits .and .i64 x 8 != 0) = false := by simpa using t8
      go_wp2_with (first | (at_builtin; refine wpList_append_own _ rfl _ _ 38 rfl w2.heap.size 9 i0 (.string ⟨#[]⟩) 1 16 Tryd.underlying38 hi hz0 hz1 hz2 rfl (by decide) _ _ _ rfl (hown.alloc _) ⟨w2.heap.size + 1, 0, none⟩ 1 1 [strV underline] rfl rfl (cell_one_at (by simp) _ _) (by simp [Value.oneCell', strV]) (by decide) (by decide) (by simp; omega) ?_; intro v3 w3 hown3 hg3 _; simp only [Nat.zero_add, List.nil_append] at hown3; have HB3 := Lib.hid ((hm.out _).trans (below_append hown (by simp) hg3)); have c3 := (HB3.out.cell (p := ⟨w.heap.size, 0, none⟩) k0).trans e0; obtain ⟨g3, cap3, rfl⟩ := ownsRow_succ hown3; clear hown hg3))
      have HR : Hid (rowF x = [underline]) := Lib.hid (by simp [rowF, t4, t8])
      clear t4 t8 e0
      refine (join_any w2.heap.size [underline] [32] _ w3 hown3 (by decide) (by decide)).mono ?_
      rintro e w5 ⟨rfl, hb5⟩
      have HB5 := Lib.hid (Below.trans HB3.out (hb5.mono (Below.size HB3.out)))
      clear hb5
      go_wp2_with fail
      refine (put_any w.heap.size x y 12 textDeco (Lib.join [underline] [32]) none_ l2 w5 (by omega) (by decide) (by decide) (by decide) (HP.out.below HB5.out)).mono ?_
      rintro e w6 ⟨rfl, h6, hb6⟩
      have hlen6 := putF_len x y 12 textDeco (Lib.join [underline] [32]) none_ l2
      have hsum6 := put_join x y (Lib.join [underline] [32]) (by decide)
      rw [HL1.out, HL2.out] at hsum6
      have HB6 := Lib.hid (below_from HB2.out (HB5.out) |>.trans hb6)
      have HF : Hid (cssPrint x y = Lib.join (putF x y 12 textDeco (Lib.join [underline] [32]) none_ l2) [59, 32]) := Lib.hid (by rw [cssPrint, HR.out, HL1.out, HL2.out])
      generalize putF x y 12 textDeco (Lib.join [underline] [32]) none_ l2 = l6 at *
      obtain ⟨_, _, _, v6, hv6, hrow6⟩ := h6
      have e6 : w6.cell? ⟨w.heap.size + 1 + 1, 0, none⟩ = some v6 := hv6.cell
      clear hb6 hv6
      go_wp2_with fail
      refine (join_any w.heap.size l6 [59, 32] _ w6 hrow6 hsum6 (by omega)).mono ?_
      rintro e w7 ⟨rfl, hb7⟩
      go_wp2_with fail
      go_ret
      exact ⟨by rw [HF.out]; rfl, below_from HB6.out hb7⟩
  · have t4 : (bits .and .i64 x 4 != 0) = false := by simpa using t4
    by_cases t8 : (bits .and .i64 x 8 != 0) = true
    · go_wp2_with (first | (at_builtin; refine wpList_append_own _ rfl _ _ 38 rfl w2.heap.size 9 i0 (.string ⟨#[]⟩) 1 16 Tryd.underlying38 hi hz0 hz1 hz2 rfl (by decide) _ _ _ rfl (hown.alloc _) ⟨w2.heap.size + 1, 0, none⟩ 1 1 [strV through] rfl rfl (cell_one_at (by simp) _ _) (by simp [Value.oneCell', strV]) (by decide) (by decide) (by simp; omega) ?_; intro v3 w3 hown3 hg3 _; simp only [Nat.zero_add, List.nil_append] at hown3; have HB3 := Lib.hid ((hm.out _).trans (below_append hown (by simp) hg3)); have c3 := (HB3.out.cell (p := ⟨w.heap.size, 0, none⟩) k0).trans e0; obtain ⟨g3, cap3, rfl⟩ := ownsRow_succ hown3; clear hown hg3))
      have HR : Hid (rowF x = [through]) := Lib.hid (by simp [rowF, t4, t8])
      clear t4 t8 e0
      refine (join_any w2.heap.size [through] [32] _ w3 hown3 (by decide) (by decide)).mono ?_
      rintro e w5 ⟨rfl, hb5⟩
      have HB5 := Lib.hid (Below.trans HB3.out (hb5.mono (Below.size HB3.out)))
      clear hb5
      go_wp2_with fail
      refine (put_any w.heap.size x y 12 textDeco (Lib.join [through] [32]) none_ l2 w5 (by omega) (by decide) (by decide) (by decide) (HP.out.below HB5.out)).mono ?_
      rintro e w6 ⟨rfl, h6, hb6⟩
      have hlen6 := putF_len x y 12 textDeco (Lib.join [through] [32]) none_ l2
      have hsum6 := put_join x y (Lib.join [through] [32]) (by decide)
      rw [HL1.out, HL2.out] at hsum6
      have HB6 := Lib.hid (below_from HB2.out (HB5.out) |>.trans hb6)
      have HF : Hid (cssPrint x y = Lib.join (putF x y 12 textDeco (Lib.join [through] [32]) none_ l2) [59, 32]) := Lib.hid (by rw [cssPrint, HR.out, HL1.out, HL2.out])
      generalize putF x y 12 textDeco (Lib.join [through] [32]) none_ l2 = l6 at *
      obtain ⟨_, _, _, v6, hv6, hrow6⟩ := h6
      have e6 : w6.cell? ⟨w.heap.size + 1 + 1, 0, none⟩ = some v6 := hv6.cell
      clear hb6 hv6
      go_wp2_with fail
      refine (join_any w.heap.size l6 [59, 32] _ w6 hrow6 hsum6 (by omega)).mono ?_
      rintro e w7 ⟨rfl, hb7⟩
      go_wp2_with fail
      go_ret
      exact ⟨by rw [HF.out]; rfl, below_from HB6.out hb7⟩
    · have t8 : (bits .and .i64 x 8 != 0) = false := by simpa using t8
      go_wp2_with fail
      have HR : Hid (rowF x = []) := Lib.hid (by simp [rowF, t4, t8])
      clear t4 t8 e0
      refine (join_any w2.heap.size [] [32] _ _ hown (by decide) (by decide)).mono ?_
      rintro e w5 ⟨rfl, hb5⟩
      have HB5 := Lib.hid (Below.trans (hm.out _) (hb5.mono (Below.size (hm.out _))))
      clear hb5
      go_wp2_with fail
      refine (put_any w.heap.size x y 12 textDeco (Lib.join [] [32]) none_ l2 w5 (by omega) (by decide) (by decide) (by decide) (HP.out.below HB5.out)).mono ?_
      rintro e w6 ⟨rfl, h6, hb6⟩
      have hlen6 := putF_len x y 12 textDeco (Lib.join [] [32]) none_ l2
      have hsum6 := put_join x y (Lib.join [] [32]) (by decide)
      rw [HL1.out, HL2.out] at hsum6
      have HB6 := Lib.hid (below_from HB2.out (HB5.out) |>.trans hb6)
      have HF : Hid (cssPrint x y = Lib.join (putF x y 12 textDeco (Lib.join [] [32]) none_ l2) [59, 32]) := Lib.hid (by rw [cssPrint, HR.out, HL1.out, HL2.out])
      generalize putF x y 12 textDeco (Lib.join [] [32]) none_ l2 = l6 at *
      obtain ⟨_, _, _, v6, hv6, hrow6⟩ := h6
      have e6 : w6.cell? ⟨w.heap.size + 1 + 1, 0, none⟩ = some v6 := hv6.cell
      clear hb6 hv6
      go_wp2_with fail
      refine (join_any w.heap.size l6 [59, 32] _ w6 hrow6 hsum6 (by omega)).mono ?_
      rintro e w7 ⟨rfl, hb7⟩
      go_wp2_with fail
      go_ret
      exact ⟨by rw [HF.out]; rfl, below_from HB6.out hb7⟩
end Go.Proofs.YtcpenjbacgjjeaaDoor
