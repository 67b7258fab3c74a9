/- The walks of the reference's Link, May of cells, lines, documents. -/
import Derived.Test.YtfoiaoopbkcpoaaGreatDoorRefTarget
import Derived.Test.YtfoiaoopbkcpoaaGreatDoorMay
import Derived.Test.YtfoiaoopbkcpoaaGreatDoorRefPlace
namespace Go.Proofs.YtfoiaoopbkcpoaaGreatDoor
open Go.RowKit
open Go.Proofs.Qw

set_option maxHeartbeats 400000 in
theorem refLink_any (s : ByteArray) (w : World) (hs : s.size ≤ 1000000) :
    Calls Tryz.prog 79 #[.string s] w fun e w' => e = .returned (.bool (linkF s.data.toList)) ∧ Below w.heap.size w w' := by
  have HC := Lib.hid (refTarget_any s w hs)
  have HL : Hid (linkF s.data.toList = (s.toList.isEmpty || targetF s.data.toList)) := Lib.hid (by
    unfold linkF
    rw [toList_eq]
    cases s.data.toList <;> rfl)
  generalize targetF s.data.toList = r at *
  go_enter Tryz.func79, Tryz.ntmps79
  go_wp2_with (go_at_call 116; refine HC.out.mono ?_; rintro e w1 ⟨rfl, hb1⟩)
  · go_ret
    rw [HL.out, show s.toList = [] by assumption]
    exact ⟨rfl, Below.refl _ _⟩
  · go_ret
    rw [HL.out]
    exact ⟨rfl, hb1⟩

set_option maxRecDepth 100000 in
set_option maxHeartbeats 2000000 in
theorem refCellsMay_any (v : Value) (d : List Cel) (w : World) (S : Nat → Prop) (h : CelsR false w S v d) (hs : ∀ c ∈ d, c.href.length ≤ 1000000) :
    Calls Tryz.prog 46 #[v] w fun e w' => e = .returned (.bool (mayCs d)) ∧ Below w.heap.size w w' := by
  obtain ⟨a, c, rfl, hc, hm, hx⟩ := cels_shape h
  have HX := Lib.hid hx
  have HS := Lib.hid hs
  clear hx h hs
  unfold maxLen at hm
  go_enter Tryz.func46, Tryz.ntmps46
  go_wp2_with fail
  go_loopw [3] (fun i wr => ∃ k : Nat, k ≤ d.length ∧ i = .int .i64 k ∧ Hid ((d.take k).all mayC = true) ∧ Below w.heap.size w wr) (fun i _ => d.length - (intOf i).toNat)
  case atStart => exact ⟨0, Nat.zero_le _, rfl, Lib.hid rfl, Below.refl _ _⟩
  case round =>
    obtain ⟨k, hk, rfl, HA, hb⟩ := hrel
    by_cases hlt : k < d.length
    · obtain ⟨x, hx, _⟩ := getOf d k hlt
      obtain ⟨b, o, rfl, hz, c0, c1, c2⟩ := HX.out k x hx
      have c0 := (hb.cell (p := ⟨b, o + k * 3, none⟩) hz).trans c0
      have c1 := (hb.cell (p := ⟨b, o + k * 3 + 1, none⟩) hz).trans c1
      have c2 := (hb.cell (p := ⟨b, o + k * 3 + 2, none⟩) hz).trans c2
      have HX2 := Lib.hid hx
      have hbs := hb.size
      obtain ⟨W1, hW1⟩ : ∃ W1, wr.alloc (.cells #[.int .i32 x.r, .int .i64 x.bits, .string ⟨x.href.toArray⟩] 58) = W1 := ⟨_, rfl⟩
      have hB : Below w.heap.size w W1 := hW1 ▸ hb.alloc hbs _
      have hA1 : W1.heap[wr.heap.size]? = some (.cells #[.int .i32 x.r, .int .i64 x.bits, .string ⟨x.href.toArray⟩] 58) := hW1 ▸ heap_new _ _ rfl
      obtain ⟨p1, f1⟩ := blk hA1
      have HM : Hid (∀ W, Calls Tryz.prog 87 #[.int .i32 x.r] W fun e w' => e = .returned (.bool (mayR x.r)) ∧ w' = W) := Lib.hid fun W => refCharMay_any x.r W
      have HC : Hid (∀ W, Calls Tryz.prog 79 #[.string ⟨x.href.toArray⟩] W fun e w' => e = .returned (.bool (linkF x.href)) ∧ Below W.heap.size W w') := Lib.hid fun W => refLink_any ⟨x.href.toArray⟩ W (by show x.href.toArray.size ≤ _; simpa using HS.out x (List.mem_of_getElem? hx))
      have HE := Lib.hid (mayC_eq x)
      have HT : Hid ((!mayC x) = false → (d.take (k + 1)).all mayC = true) := Lib.hid fun h => all_take HX2.out HA.out (by simpa using h)
      have HF : Hid ((!mayC x) = true → mayCs d = false) := Lib.hid fun h => all_no HX2.out (by simpa using h)
      clear hx hA1
      generalize (!mayC x) = r at *
      generalize mayR x.r = m at *
      generalize linkF x.href = lk at *
      go_wp2_with (first | (go_at_call 87; refine (HM.out _).mono ?_; rintro e w1 ⟨rfl, rfl⟩; cases m) | (go_at_call 79; refine (HC.out _).mono ?_; rintro e w1 ⟨rfl, hb1⟩; have hB2 := hB.trans (Below.mono hb1 hB.size); cases lk))
      all_goals first
        | (go_roundw
           case rel =>
             refine ⟨k + 1, hlt, by go_num, Lib.hid (HT.out ?_), by first | exact hB2 | exact hB⟩
             rw [HE.out]
             clear HE HM HC HT HF
             simp (config := { failIfUnchanged := false }) [*]
           case measure => simp [intOf]; omega)
        | (go_ret
           refine ⟨?_, by first | exact hB2 | exact hB⟩
           rw [HF.out (by rw [HE.out]; clear HE HM HC HT HF; simp (config := { failIfUnchanged := false }) [*])]
           rfl)
    · obtain rfl : k = d.length := by omega
      have HF : Hid (mayCs d = true) := Lib.hid (by have := HA.out; rwa [List.take_length] at this)
      have HB := Lib.hid hb
      clear hb
      go_wp2_with fail
      go_ret
      rw [HF.out]
      exact ⟨rfl, HB.out⟩

theorem mayL_bad {l : Lin} (h : ¬ (0 ≤ l.quote ∧ l.quote ≤ 6 ∧ l.lists.length ≤ 6 ∧ 0 ≤ l.kind ∧ l.kind ≤ 3)) : mayL l = false := by
  cases hm : mayL l
  · rfl
  · exfalso
    apply h
    unfold mayL at hm
    simp only [Bool.and_eq_true, decide_eq_true_eq] at hm
    omega
def okK (kind k : Int) : Bool := decide (k = 0 ∨ k = 1) && decide (kind = 0)
theorem mayL_good {l : Lin} (h : 0 ≤ l.quote ∧ l.quote ≤ 6 ∧ l.lists.length ≤ 6 ∧ 0 ≤ l.kind ∧ l.kind ≤ 3) : mayL l = (l.lists.all (okK l.kind) && mayCs l.cells) := by
  unfold mayL
  rw [decide_eq_true h.1, decide_eq_true h.2.1, decide_eq_true h.2.2.1, decide_eq_true h.2.2.2.1, decide_eq_true h.2.2.2.2]
  have e : l.lists.all (okK l.kind) = ((decide (l.lists = []) || decide (l.kind = 0)) && l.lists.all (fun k => decide (k = 0 ∨ k = 1))) := by
    by_cases hk : l.kind = 0
    · have e0 : okK l.kind = fun k => decide (k = 0 ∨ k = 1) := by funext k; simp [okK, hk]
      rw [e0, hk]; simp
    · cases hl : l.lists with
      | nil => simp
      | cons x t => simp [okK, hk]
  rw [e]
  simp

set_option maxRecDepth 100000 in
set_option maxHeartbeats 4000000 in
theorem refLineMay_any (l : Lin) (a b : Value) (w : World) (S : Nat → Prop) (hL : IntsR false w S a l.lists) (hC : CelsR false w S b l.cells) (hs : ∀ c ∈ l.cells, c.href.length ≤ 1000000) :
    Calls Tryz.prog 63 #[linV l a b] w fun e w' => e = .returned (.bool (mayL l)) ∧ Below w.heap.size w w' := by
  have HC : Hid (∀ W, Below w.heap.size w W → Calls Tryz.prog 46 #[b] W fun e w' => e = .returned (.bool (mayCs l.cells)) ∧ Below W.heap.size W w') := Lib.hid fun W hW => refCellsMay_any b l.cells W S (hC.below (rdOf_stable _) hW) hs
  obtain ⟨la, lc, rfl, hlc, hlm, hx⟩ := ints_shape hL
  have HX := Lib.hid hx
  obtain ⟨ca, cc, rfl⟩ := hC.slice
  obtain ⟨W1, hW1⟩ : ∃ W1, w.alloc (.cells #[.int .i64 l.quote, .slice la l.lists.length lc, .int .i64 l.kind, .slice ca l.cells.length cc] 55) = W1 := ⟨_, rfl⟩
  have hB : Below w.heap.size w W1 := hW1 ▸ (Below.refl _ _).alloc (Nat.le_refl _) _
  have hA1 : W1.heap[w.heap.size]? = some (.cells #[.int .i64 l.quote, .slice la l.lists.length lc, .int .i64 l.kind, .slice ca l.cells.length cc] 55) := hW1 ▸ heap_new _ _ rfl
  obtain ⟨p1, f1⟩ := blk hA1
  unfold maxLen at hlm
  clear hx hL hC hs hA1
  by_cases hh : 0 ≤ l.quote ∧ l.quote ≤ 6 ∧ l.lists.length ≤ 6 ∧ 0 ≤ l.kind ∧ l.kind ≤ 3
  · have HG := Lib.hid (mayL_good hh)
    obtain ⟨h1, h2, h3, h4, h5⟩ := hh
    go_enter Tryz.func63, Tryz.ntmps63
    go_wp2_with fail
    go_loopw [3] (fun i wr => ∃ k : Nat, k ≤ l.lists.length ∧ i = .int .i64 k ∧ Hid ((l.lists.take k).all (okK l.kind) = true) ∧ wr = W1) (fun i _ => l.lists.length - (intOf i).toNat)
    case atStart => exact ⟨0, Nat.zero_le _, rfl, Lib.hid rfl, rfl⟩
    case round =>
      obtain ⟨k, hk, rfl, HA, rfl⟩ := hrel
      by_cases hlt : k < l.lists.length
      · obtain ⟨x, hx, _⟩ := getOf l.lists k hlt
        obtain ⟨b, o, rfl, hz, c0⟩ := HX.out k x hx
        have c0 := (hB.cell (p := ⟨b, o + k, none⟩) hz).trans c0
        have HX2 := Lib.hid hx
        clear hx
        have hcs : ((x != 0) = true ∧ (x != 1) = true ∧ okK l.kind x = false) ∨ ((x != 0) = false ∧ (l.kind != 0) = true ∧ okK l.kind x = false) ∨ ((x != 0) = true ∧ (x != 1) = false ∧ (l.kind != 0) = true ∧ okK l.kind x = false) ∨ ((x != 0) = false ∧ (l.kind != 0) = false ∧ okK l.kind x = true) ∨ ((x != 0) = true ∧ (x != 1) = false ∧ (l.kind != 0) = false ∧ okK l.kind x = true) := by
          unfold okK
          by_cases e0 : x = 0 <;> by_cases e1 : x = 1 <;> by_cases e2 : l.kind = 0 <;> simp [e0, e1, e2] <;> omega
        rcases hcs with ⟨t1, t2, t3⟩ | ⟨t1, t2, t3⟩ | ⟨t1, t2, t4, t3⟩ | ⟨t1, t2, t3⟩ | ⟨t1, t2, t4, t3⟩
        · have HF : Hid (mayL l = false) := Lib.hid (by rw [HG.out, all_no HX2.out t3]; rfl)
          clear t3
          go_wp2_with fail
          go_ret
          rw [HF.out]
          exact ⟨rfl, hB⟩
        · have HF : Hid (mayL l = false) := Lib.hid (by rw [HG.out, all_no HX2.out t3]; rfl)
          clear t3
          go_wp2_with fail
          go_ret
          rw [HF.out]
          exact ⟨rfl, hB⟩
        · have HF : Hid (mayL l = false) := Lib.hid (by rw [HG.out, all_no HX2.out t3]; rfl)
          clear t3
          go_wp2_with fail
          go_ret
          rw [HF.out]
          exact ⟨rfl, hB⟩
        all_goals
          have HT := Lib.hid (all_take HX2.out HA.out t3)
          clear t3
          go_wp2_with fail
          go_roundw
          case rel => exact ⟨k + 1, hlt, by go_num, HT, by first | rfl | trivial⟩
          case measure => simp [intOf]; omega
      · obtain rfl : k = l.lists.length := by omega
        have HF : Hid (mayL l = mayCs l.cells) := Lib.hid (by have := HA.out; rw [List.take_length] at this; rw [HG.out, this]; rfl)
        go_wp2_with (go_at_call 46; refine (HC.out _ hB).mono ?_; rintro e w2 ⟨rfl, hb2⟩)
        go_ret
        rw [HF.out]
        exact ⟨rfl, hB.trans (hb2.mono hB.size)⟩
  · have HF := Lib.hid (mayL_bad hh)
    go_enter Tryz.func63, Tryz.ntmps63
    have hcs : (l.quote < 0) ∨ (0 ≤ l.quote ∧ 6 < l.quote) ∨ (0 ≤ l.quote ∧ l.quote ≤ 6 ∧ 6 < (l.lists.length : Int)) ∨ (0 ≤ l.quote ∧ l.quote ≤ 6 ∧ (l.lists.length : Int) ≤ 6 ∧ l.kind < 0) ∨ (0 ≤ l.quote ∧ l.quote ≤ 6 ∧ (l.lists.length : Int) ≤ 6 ∧ 0 ≤ l.kind ∧ 3 < l.kind) := by omega
    clear hh
    rcases hcs with t1 | ⟨t1, t2⟩ | ⟨t1, t2, t3⟩ | ⟨t1, t2, t3, t4⟩ | ⟨t1, t2, t3, t4, t5⟩
    all_goals
      go_wp2_with fail
      go_ret
      rw [HF.out]
      exact ⟨rfl, hB⟩

set_option maxRecDepth 100000 in
set_option maxHeartbeats 4000000 in
theorem refMay_any (v : Value) (d : Doc) (w : World) (S : Nat → Prop) (h : LinsR w S v d) (hs : Small d) :
    Calls Tryz.prog 14 #[v] w fun e w' => e = .returned (.bool (mayD d)) ∧ Below w.heap.size w w' := by
  have HC := Lib.hid (refSize_any v d w S h hs.1)
  have hsz := hs.1
  obtain ⟨a, c, rfl, hc, hm, hx⟩ := lins_shape h
  have HX := Lib.hid hx
  have HS := Lib.hid hs
  unfold maxLen at hm
  clear hx h hs
  by_cases hh : 1 ≤ d.length ∧ d.length ≤ 200 ∧ sizeD d ≤ 4000
  · have HG : Hid (mayD d = d.all mayL) := Lib.hid (by unfold mayD; rw [decide_eq_true hh.1, decide_eq_true hh.2.1, decide_eq_true hh.2.2]; rfl)
    obtain ⟨h1, h2, h3⟩ := hh
    go_enter Tryz.func14, Tryz.ntmps14
    go_wp2_with (go_at_call 16; refine HC.out.mono ?_; rintro e w1 ⟨rfl, hb1⟩)
    go_loopw [3] (fun i wr => ∃ k : Nat, k ≤ d.length ∧ i = .int .i64 k ∧ Hid ((d.take k).all mayL = true) ∧ Below w.heap.size w wr) (fun i _ => d.length - (intOf i).toNat)
    case atStart => exact ⟨0, Nat.zero_le _, rfl, Lib.hid rfl, hb1⟩
    case round =>
      obtain ⟨k, hk, rfl, HA, hb⟩ := hrel
      by_cases hlt : k < d.length
      · obtain ⟨l, hl, _⟩ := getOf d k hlt
        obtain ⟨b, o, la, lc, ca, cc, rfl, hA⟩ := HX.out k l hl
        have HW : Hid (∀ W, Below w.heap.size w W → Calls Tryz.prog 63 #[linV l (.slice la l.lists.length lc) (.slice ca l.cells.length cc)] W fun e w' => e = .returned (.bool (mayL l)) ∧ Below W.heap.size W w') := Lib.hid fun W hW => refLineMay_any l _ _ W S (hA.below hW).listsR (hA.below hW).cellsR (HS.out.2.2 l (List.mem_of_getElem? hl))
        obtain ⟨_, c0, c1, c2, c3, _, _⟩ := hA.below hb
        have HX2 := Lib.hid hl
        clear hl hA
        cases hm : mayL l
        · rw [hm] at HW
          have HF : Hid (mayD d = false) := Lib.hid (by rw [HG.out]; exact all_no HX2.out hm)
          clear hm
          go_wp2_with (go_at_call 63; refine (HW.out _ hb).mono ?_; rintro e w2 ⟨rfl, hb2⟩)
          go_ret
          rw [HF.out]
          exact ⟨rfl, below_from hb hb2⟩
        · rw [hm] at HW
          have HF := Lib.hid (all_take HX2.out HA.out hm)
          clear hm
          go_wp2_with (go_at_call 63; refine (HW.out _ hb).mono ?_; rintro e w2 ⟨rfl, hb2⟩)
          go_roundw
          case rel => exact ⟨k + 1, hlt, by go_num, HF, below_from hb hb2⟩
          case measure => simp [intOf]; omega
      · obtain rfl : k = d.length := by omega
        have HF : Hid (mayD d = true) := Lib.hid (by have := HA.out; rw [List.take_length] at this; rw [HG.out, this])
        have HB := Lib.hid hb
        clear hb
        go_wp2_with fail
        go_ret
        rw [HF.out]
        exact ⟨rfl, HB.out⟩
  · have HF : Hid (mayD d = false) := Lib.hid (by
      cases hm : mayD d
      · rfl
      · exfalso
        apply hh
        unfold mayD at hm
        simp only [Bool.and_eq_true, decide_eq_true_eq] at hm
        omega)
    have hcs : ((d.length : Int) < 1) ∨ (1 ≤ (d.length : Int) ∧ 200 < (d.length : Int)) ∨ (1 ≤ (d.length : Int) ∧ (d.length : Int) ≤ 200 ∧ 4000 < (sizeD d : Int)) := by omega
    clear hh
    go_enter Tryz.func14, Tryz.ntmps14
    rcases hcs with t1 | ⟨t1, t2⟩ | ⟨t1, t2, t3⟩
    · go_wp2_with fail
      go_ret
      rw [HF.out]
      exact ⟨rfl, Below.refl _ _⟩
    · go_wp2_with fail
      go_ret
      rw [HF.out]
      exact ⟨rfl, Below.refl _ _⟩
    · go_wp2_with (go_at_call 16; refine HC.out.mono ?_; rintro e w1 ⟨rfl, hb1⟩)
      go_ret
      rw [HF.out]
      exact ⟨rfl, hb1⟩
end Go.Proofs.YtfoiaoopbkcpoaaGreatDoor
