/- The walk of the reference's Places. -/
import Derived.Test.YtfoiaoopbkcpoaaGreatDoorRefPlace
namespace Go.Proofs.Qw
/-- All places of a document, in order. -/
def placesFrom : Nat → Doc → List Ps
  | _, [] => []
  | i, l :: d => (List.range (l.cells.length + 1)).map (fun (k : Nat) => (⟨(i : Int), (k : Int)⟩ : Ps)) ++ placesFrom (i + 1) d
def placesD (d : Doc) : List Ps := placesFrom 0 d
theorem placesFrom_append : ∀ (x : Doc) (i : Nat) (y : Doc), placesFrom i (x ++ y) = placesFrom i x ++ placesFrom (i + x.length) y
  | [], i, y => by simp [placesFrom]
  | l :: x, i, y => by
    rw [List.cons_append, placesFrom, placesFrom, placesFrom_append x, List.append_assoc, List.length_cons, show i + 1 + x.length = i + (x.length + 1) by omega]
theorem placesD_step {d : Doc} {k : Nat} {l : Lin} (h : d[k]? = some l) : placesD (d.take (k + 1)) = placesD (d.take k) ++ (List.range (l.cells.length + 1)).map (fun (j : Nat) => (⟨(k : Int), (j : Int)⟩ : Ps)) := by
  have hk := (List.getElem?_eq_some_iff.1 h).1
  unfold placesD
  rw [List.take_add_one, h]
  show placesFrom 0 (d.take k ++ [l]) = _
  rw [placesFrom_append, List.length_take, Nat.min_eq_left (by omega), Nat.zero_add]
  simp [placesFrom]
theorem placesFrom_length : ∀ (d : Doc) (i : Nat), (placesFrom i d).length = sizeD d + d.length
  | [], _ => rfl
  | l :: d, i => by
    rw [placesFrom, List.length_append, placesFrom_length d, List.length_map, List.length_range]
    simp only [sizeD, List.map_cons, List.sum_cons, List.length_cons]
    omega
theorem placesD_length (d : Doc) : (placesD d).length = sizeD d + d.length := placesFrom_length d 0
end Go.Proofs.Qw
namespace Go.Proofs.YtfoiaoopbkcpoaaGreatDoor
open Go.RowKit
open Go.Proofs.Qw

def encPos (p : Ps) : List Value := [.int .i64 p.line, .int .i64 p.col]
abbrev PlacesR := SliceR 24 2 (rdOf encPos)
theorem rowPos : RowT Tryz.prog 73 24 2 := RowT.mk' (y := 16) Tryz.underlying73 (by kernel_rfl) (by decide) (z := .agg #[.int .i64 0, .int .i64 0]) (by rfl)
theorem eltPos : Elt 24 2 (rdOf encPos) := elt_of _ (by decide) (fun _ => rfl) (fun x u hu => by simp [encPos] at hu; rcases hu with rfl | rfl <;> rfl)
theorem places_shape {own : Bool} {w : World} {S : Nat → Prop} {v : Value} {d : List Ps} (h : PlacesR own w S v d) :
    ∃ a c, v = .slice a d.length c ∧ d.length ≤ c ∧ c ≤ maxLen ∧ ∀ i l, d[i]? = some l → ∃ b o, a = some ⟨b, o, none⟩ ∧ b < w.heap.size ∧ w.cell? ⟨b, o + i * 2, none⟩ = some (.int .i64 l.line) ∧ w.cell? ⟨b, o + i * 2 + 1, none⟩ = some (.int .i64 l.col) := by
  obtain ⟨a, c, rfl, hc, hm, hx⟩ := h.shape
  refine ⟨a, c, rfl, hc, hm, fun i l hl => ?_⟩
  obtain ⟨b, o, vs, rfl, hz, _, _, e, he⟩ := hx i l hl
  cases e
  exact ⟨b, o, rfl, hz, he 0 _ rfl, he 1 _ rfl⟩
theorem ones2 (a b : Int) : ∀ u ∈ [Value.int .i64 a, .int .i64 b], u.oneCell' = true := by
  intro u hu
  simp at hu
  rcases hu with rfl | rfl <;> rfl
set_option maxRecDepth 100000 in
set_option maxHeartbeats 2000000 in
theorem places_any (v : Value) (d : Doc) (w : World) (S : Nat → Prop) (h : LinsR w S v d) (hs : sizeD d ≤ 100000) (hl : d.length ≤ 100000) :
    Calls Tryz.prog 66 #[v] w fun e w' => ∃ v', e = .returned v' ∧ PlacesR true w' (fun b => w.heap.size ≤ b) v' (placesD d) ∧ Below w.heap.size w w' := by
  obtain ⟨a, c, rfl, hc, hm, hx⟩ := lins_shape h
  have HX := Lib.hid hx
  clear hx h
  unfold maxLen at hm
  go_enter Tryz.func66, Tryz.ntmps66
  go_wp2_with fail
  go_loopw [3, 4, 5] (fun out i _ wr => ∃ k : Nat, k ≤ d.length ∧ i = .int .i64 k ∧ PlacesR true wr (fun b => w.heap.size ≤ b) out (placesD (d.take k)) ∧ Below w.heap.size w wr) (fun _ i _ _ => d.length - (intOf i).toNat)
  case atStart => exact ⟨0, Nat.zero_le _, rfl, SliceR.nil _ _ _ _ _ _, Below.refl _ _⟩
  case round =>
    obtain ⟨k, hk, rfl, hO, hb⟩ := hrel
    obtain ⟨wo, rfl⟩ : ∃ wo : World, wo = wr := ⟨_, rfl⟩
    by_cases hlt : k < d.length
    · obtain ⟨l, hl', hd⟩ := getOf d k hlt
      obtain ⟨b, o, la, lc, ca, cc, rfl, hA⟩ := HX.out k l hl'
      have hcl := cells_le hl'
      have HT := Lib.hid (placesD_step hl')
      have hlen : (placesD (d.take k)).length + (l.cells.length + 1) ≤ 300000 := by
        have h1 := placesD_length (d.take (k + 1))
        rw [HT.out] at h1
        rw [List.length_append, List.length_map, List.length_range] at h1
        have h2 := sizeD_le d (k + 1)
        have h3 : (d.take (k + 1)).length ≤ k + 1 := List.length_take_le _ _
        omega
      have HA := Lib.hid hA
      have HO := Lib.hid hO
      have i0 : (0 : Int) ≤ (k : Int) := Int.natCast_nonneg _
      have i1 : (k : Int) < (d.length : Int) := by omega
      clear hA hl' hd hO
      go_wp2_with fail
      go_loopw [3, 5] (fun out j wi => ∃ q : Nat, q ≤ l.cells.length + 1 ∧ j = .int .i64 q ∧ PlacesR true wi (fun b => w.heap.size ≤ b) out (placesD (d.take k) ++ (List.range q).map (fun (j : Nat) => (⟨(k : Int), (j : Int)⟩ : Ps))) ∧ Below w.heap.size w wi) (fun _ j _ => l.cells.length + 1 - (intOf j).toNat)
      case atStart => exact ⟨0, Nat.zero_le _, rfl, by simpa using HO.out, hb⟩
      case round =>
        obtain ⟨q, hq, rfl, hO2, hb2⟩ := hrel
        obtain ⟨hz, c0, c1, c2, c3, _, _⟩ := HA.out.below hb2
        have HO2 := Lib.hid hO2
        have hbs := hb2.size
        clear hO2
        by_cases hlt2 : q < l.cells.length + 1
        · have hle : (q : Int) ≤ (l.cells.length : Int) := by omega
          have hln : Hid ((placesD (d.take k) ++ (List.range q).map (fun (j : Nat) => (⟨(k : Int), (j : Int)⟩ : Ps))).length + [(⟨(k : Int), (q : Int)⟩ : Ps)].length ≤ 100000000) := Lib.hid (by simp; omega)
          have HR1 : Hid ((List.range (q + 1)).map (fun (j : Nat) => (⟨(k : Int), (j : Int)⟩ : Ps)) = (List.range q).map (fun (j : Nat) => (⟨(k : Int), (j : Int)⟩ : Ps)) ++ [⟨(k : Int), (q : Int)⟩]) := Lib.hid (by rw [List.range_succ, List.map_append]; rfl)
          go_wp2_with (at_builtin; go_must (refine wpList_append_R _ rfl _ _ 73 73 rfl rowPos eltPos w.heap.size _ _ (xs := placesD (d.take k) ++ (List.range q).map (fun (j : Nat) => (⟨(k : Int), (j : Int)⟩ : Ps))) (ys := [⟨(k : Int), (q : Int)⟩]) (news := [.int .i64 k, .int .i64 q]) rfl rfl (HO2.out.stable (rdOf_stable _) ((Keeps.refl _ _).alloc _) (fun _ h _ => h)) (by simp; omega) (src_one rowPos wr [.int .i64 k, .int .i64 q] rfl (ones2 _ _) 1) (NewsR.one rfl rfl) hln.out ?_); intro v' w3 hR hB _ _; have HR := Lib.hid hR; have HB3 := Lib.hid hB; clear hR hB)
          go_roundw
          case rel => exact ⟨q + 1, by omega, by go_num, by rw [HR1.out, ← List.append_assoc]; exact HR.out, (hb2.alloc (by omega) _).trans HB3.out⟩
          case measure => simp [intOf]; omega
        · obtain rfl : q = l.cells.length + 1 := by omega
          have hgt : ¬ ((l.cells.length : Int) + 1 ≤ l.cells.length) := by omega
          go_wp2_with fail
          go_roundw
          case rel => exact ⟨k + 1, by omega, by go_num, by rw [HT.out]; exact HO2.out, hb2⟩
          case measure => simp [intOf]; omega
    · obtain rfl : k = d.length := by omega
      have HT := Lib.hid (List.take_length (l := d))
      have HO := Lib.hid hO
      have HB := Lib.hid hb
      clear hb hO
      go_wp2_with fail
      go_ret
      exact ⟨_, rfl, Eq.mp (congrArg (fun x => PlacesR true wo (fun b => w.heap.size ≤ b) _ (placesD x)) HT.out) HO.out, HB.out⟩
end Go.Proofs.YtfoiaoopbkcpoaaGreatDoor
