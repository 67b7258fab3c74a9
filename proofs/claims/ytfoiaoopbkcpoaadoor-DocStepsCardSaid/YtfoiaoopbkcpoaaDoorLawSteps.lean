/- The walk of the law DocSteps. -/
import Derived.Test.YtfoiaoopbkcpoaaDoorStepsPlain
import Derived.Test.YtfoiaoopbkcpoaaDoorIs
import Derived.Test.YtfoiaoopbkcpoaaDoorAwake
import Derived.Test.YtfoiaoopbkcpoaaDoorLawPlaces
namespace Go.Proofs.YtfoiaoopbkcpoaaDoor
open Go.RowKit
open Go.Proofs.Qw
set_option maxRecDepth 100000 in
set_option maxHeartbeats 8000000 in
theorem lawSteps_any (v : Value) (d : Doc) (n m by' : Int) (w : World) (S : Nat → Prop) (h : LinsR w S v d) (s : Sane d) (he : EnvT w) (bb : -9223372036854775808 ≤ by' ∧ by' ≤ 9223372036854775807) :
    Calls Tryd.prog 3 #[v, .int .i64 n, .int .i64 m, .int .i64 by'] w fun e w' => e = .returned (.bool true) ∧ Below w.heap.size w w' := by
  have HL := Lib.hid (long_any v d w S h s)
  have HA : Hid (∀ W, Below w.heap.size w W → Calls Tryd.prog 5 #[] W fun e w' => e = .returned (.bool true) ∧ Below W.heap.size W w') := Lib.hid fun W hW => awake_any W (he.below hW)
  have HV := Lib.hid h
  obtain ⟨va, vc, rfl⟩ := h.slice
  clear h he s
  by_cases hd : d = []
  · have hq : ((d.length : Int) == 0) = true := by subst hd; rfl
    clear hd
    go_enter Tryd.func3, Tryd.ntmps3
    go_wp2_with fail
    refine HL.out.mono ?_
    rintro e w2 ⟨r, rfl, _, hb2⟩
    cases r
    all_goals
      go_wp2_with fail
      refine (HA.out _ hb2).mono ?_
      rintro e w3 ⟨rfl, hb3⟩
      go_wp2_with fail
      go_ret
      exact ⟨rfl, below_from hb2 hb3⟩
  have hl0 : 0 < d.length := List.length_pos_iff.2 hd
  have hq : ((d.length : Int) == 0) = false := by simp; omega
  -- what the numbers are
  obtain ⟨A, hA⟩ : ∃ A, bits .and .i64 n 16777215 = A := ⟨_, rfl⟩
  obtain ⟨B, hB⟩ : ∃ B, bits .and .i64 m 16777215 = B := ⟨_, rfl⟩
  have hA1 : 0 ≤ A ∧ A ≤ 16777215 := by rw [← hA]; exact and_bound n 16777215 (by decide)
  have hB1 : 0 ≤ B ∧ B ≤ 16777215 := by rw [← hB]; exact and_bound m 16777215 (by decide)
  have hpl := placesD_length d
  obtain ⟨la, hla⟩ : ∃ la : Int, (((placesD d).length - 1 : Nat) : Int) = la := ⟨_, rfl⟩
  have hla1 : 0 ≤ la := by omega
  obtain ⟨kn, hkn⟩ := Int.eq_ofNat_of_zero_le (show 0 ≤ A % (la + 1) from Int.emod_nonneg _ (by omega))
  obtain ⟨km, hkm⟩ := Int.eq_ofNat_of_zero_le (show 0 ≤ B % (la + 1) from Int.emod_nonneg _ (by omega))
  have hkn1 : kn < (placesD d).length := by have := Int.emod_lt_of_pos A (show 0 < la + 1 by omega); omega
  have hkm1 : km < (placesD d).length := by have := Int.emod_lt_of_pos B (show 0 < la + 1 by omega); omega
  obtain ⟨P, hP⟩ : ∃ P, (placesD d)[kn]? = some P := ⟨_, List.getElem?_eq_getElem hkn1⟩
  obtain ⟨Q, hQ⟩ : ∃ Q, (placesD d)[km]? = some Q := ⟨_, List.getElem?_eq_getElem hkm1⟩
  obtain ⟨E, hE⟩ : ∃ E, endD d = E := ⟨_, rfl⟩
  obtain ⟨s1, hs1⟩ : ∃ x, (stepD d P by').1 = x := ⟨_, rfl⟩
  obtain ⟨s2, hs2⟩ : ∃ x, (stepD d P by').2 = x := ⟨_, rfl⟩
  have hst : stepD d P by' = (s1, s2) := by rw [← hs1, ← hs2]
  go_enter Tryd.func3, Tryd.ntmps3
  go_wp2_with fail
  refine HL.out.mono ?_
  rintro e w2 ⟨r, rfl, hr, hb2⟩
  cases r
  case' true =>
    go_wp2_with fail
    refine (HA.out _ hb2).mono ?_
    rintro e w3 ⟨rfl, hb3⟩
    go_wp2_with fail
    go_ret
    exact ⟨rfl, below_from hb2 hb3⟩
  have hsm := hr rfl
  clear hr
  have hsz : sizeD d ≤ 100000 := hsm.small.1
  have hdl : d.length ≤ 100000 := hsm.small.2.1
  have HEnd : Hid (∀ W, Below w.heap.size w W → Calls Tryd.prog 7 #[.slice va d.length vc] W fun e w' => e = .returned (.agg #[.int .i64 E.line, .int .i64 E.col]) ∧ Below W.heap.size W w') := Lib.hid fun W hW => by
    have := end_any _ d W w S HV.out hW
    rw [hE] at this
    exact this
  have HOffE : Hid (∀ W, Below w.heap.size w W → Calls Tryd.prog 6 #[.slice va d.length vc, .agg #[.int .i64 E.line, .int .i64 E.col]] W fun e w' => e = .returned (.tuple #[.int .i64 la, .int .i64 0]) ∧ Below W.heap.size W w') := Lib.hid fun W hW => by
    have := offset_any _ d E W w S HV.out hW hsz hdl
    rw [← hE, places_off (places_last hd)] at this
    rw [← hla, ← hE]
    exact this
  have HSize : Hid (∀ W, Below w.heap.size w W → Calls Tryd.prog 8 #[.slice va d.length vc] W fun e w' => e = .returned (.int .i64 (sizeD d)) ∧ Below W.heap.size W w') := Lib.hid fun W hW => size_any _ d W w S HV.out hW hsz
  have HAtn : Hid (∀ W, Below w.heap.size w W → Calls Tryd.prog 9 #[.slice va d.length vc, .int .i64 kn] W fun e w' => e = .returned (.tuple #[.agg #[.int .i64 P.line, .int .i64 P.col], .int .i64 0]) ∧ Below W.heap.size W w') := Lib.hid fun W hW => by
    have := at_any _ d kn W w S HV.out hW hsz (by omega)
    rw [atD_some hP] at this
    exact this
  have HAtm : Hid (∀ W, Below w.heap.size w W → Calls Tryd.prog 9 #[.slice va d.length vc, .int .i64 km] W fun e w' => e = .returned (.tuple #[.agg #[.int .i64 Q.line, .int .i64 Q.col], .int .i64 0]) ∧ Below W.heap.size W w') := Lib.hid fun W hW => by
    have := at_any _ d km W w S HV.out hW hsz (by omega)
    rw [atD_some hQ] at this
    exact this
  have HOffP : Hid (∀ W, Below w.heap.size w W → Calls Tryd.prog 6 #[.slice va d.length vc, .agg #[.int .i64 P.line, .int .i64 P.col]] W fun e w' => e = .returned (.tuple #[.int .i64 kn, .int .i64 0]) ∧ Below W.heap.size W w') := Lib.hid fun W hW => by
    have := offset_any _ d P W w S HV.out hW hsz hdl
    rw [places_off hP] at this
    exact this
  have HIs : Hid (∀ W, Below w.heap.size w W → Calls Tryd.prog 10 #[.slice va d.length vc, .agg #[.int .i64 P.line, .int .i64 P.col]] W fun e w' => e = .returned (.bool true) ∧ Below W.heap.size W w') := Lib.hid fun W hW => by
    have := is_any _ d P W w S HV.out hW
    rw [is_places hP] at this
    exact this
  have HCl : Hid (∀ W, Below w.heap.size w W → Calls Tryd.prog 11 #[.slice va d.length vc, .agg #[.int .i64 P.line, .int .i64 P.col]] W fun e w' => e = .returned (.agg #[.int .i64 P.line, .int .i64 P.col]) ∧ Below W.heap.size W w') := Lib.hid fun W hW => by
    have := clamp_any _ d P W w S HV.out hW
    rw [clamp_is (is_places hP)] at this
    exact this
  have HCmp : Hid (∀ W, Below w.heap.size w W → Calls Tryd.prog 12 #[.agg #[.int .i64 P.line, .int .i64 P.col], .agg #[.int .i64 Q.line, .int .i64 Q.col]] W fun e w' => e = .returned (.int .i64 (cmpI kn km)) ∧ Below W.heap.size W w') := Lib.hid fun W hW => by
    have := cmp_any P Q W
    rw [cmp_places hP hQ] at this
    exact this
  have HStQ : Hid (∀ W, Below w.heap.size w W → Calls Tryd.prog 13 #[.slice va d.length vc, .agg #[.int .i64 P.line, .int .i64 P.col], .int .i64 ((km : Int) - kn)] W fun e w' => e = .returned (.tuple #[.agg #[.int .i64 Q.line, .int .i64 Q.col], .bool true]) ∧ Below W.heap.size W w') := Lib.hid fun W hW => by
    have := step_any _ d P ((km : Int) - kn) W w S HV.out hW hsz hdl (by omega)
    rw [stepD_to hP hQ] at this
    exact this
  have HStB : Hid (∀ W, Below w.heap.size w W → Calls Tryd.prog 13 #[.slice va d.length vc, .agg #[.int .i64 P.line, .int .i64 P.col], .int .i64 by'] W fun e w' => e = .returned (.tuple #[.agg #[.int .i64 s1.line, .int .i64 s1.col], .bool s2]) ∧ Below W.heap.size W w') := Lib.hid fun W hW => by
    have := step_any _ d P by' W w S HV.out hW hsz hdl bb
    rw [hst] at this
    exact this
  have HBk : Hid (s2 = true → (-9223372036854775808 < by' ∧ by' ≤ 9223372036854775807) ∧ ∀ W, Below w.heap.size w W → Calls Tryd.prog 13 #[.slice va d.length vc, .agg #[.int .i64 s1.line, .int .i64 s1.col], .int .i64 (-by')] W fun e w' => e = .returned (.tuple #[.agg #[.int .i64 P.line, .int .i64 P.col], .bool true]) ∧ Below W.heap.size W w') := Lib.hid fun hs => by
    rw [hs] at hst
    obtain ⟨h1, h2, h3⟩ := stepD_back hP hst
    refine ⟨by omega, fun W hW => ?_⟩
    have := step_any _ d s1 (-by') W w S HV.out hW hsz hdl (by omega)
    rw [h1] at this
    exact this
  have HOut : Hid (s2 = false → (by' < 0 ∧ s1 = ⟨0, 0⟩) ∨ (0 < by' ∧ s1 = E)) := Lib.hid fun hs => by
    rw [hs] at hst
    have := stepD_off hP hst
    rwa [hE] at this
  have hszl : (la != (sizeD d : Int) + (d.length : Int) - 1) = false := by simp; omega
  have hkk : ((kn : Int) != (kn : Int)) = false := bne_self_eq_false _
  have hl2 : la ≤ 300000 := by omega
  have hkn2 : (kn : Int) ≤ 300000 := by omega
  have hkm2 : (km : Int) ≤ 300000 := by omega
  have hz : (la + 1 == 0) = false := by simp; omega
  have hqP : ∀ w, (binOp .neq 29 (.agg #[.int .i64 P.line, .int .i64 P.col]) (.agg #[.int .i64 P.line, .int .i64 P.col])).run Tryd.prog w = .ok (.bool false) w := fun w => by rw [run_neq_pos, decide_eq_true rfl]; rfl
  have hqQ : ∀ w, (binOp .neq 29 (.agg #[.int .i64 Q.line, .int .i64 Q.col]) (.agg #[.int .i64 Q.line, .int .i64 Q.col])).run Tryd.prog w = .ok (.bool false) w := fun w => by rw [run_neq_pos, decide_eq_true rfl]; rfl
  have heP : ∀ w, (binOp .eql 29 (.agg #[.int .i64 P.line, .int .i64 P.col]) (.agg #[.int .i64 P.line, .int .i64 P.col])).run Tryd.prog w = .ok (.bool true) w := fun w => by rw [run_eql_pos, decide_eq_true rfl]
  have heE : ∀ w, (binOp .eql 29 (.agg #[.int .i64 E.line, .int .i64 E.col]) (.agg #[.int .i64 E.line, .int .i64 E.col])).run Tryd.prog w = .ok (.bool true) w := fun w => by rw [run_eql_pos, decide_eq_true rfl]
  have he0 : ∀ w, (binOp .eql 29 (.agg #[.int .i64 0, .int .i64 0]) (.agg #[.int .i64 0, .int .i64 0])).run Tryd.prog w = .ok (.bool true) w := fun w => by have := run_eql_pos ⟨0, 0⟩ ⟨0, 0⟩ w; rwa [decide_eq_true rfl] at this
  have hgp := guardPos
  obtain ⟨hA2, hA3⟩ := hA1
  obtain ⟨hB2, hB3⟩ := hB1
  clear hs1 hs2 hst hE hP hQ hla hpl hsm hd hkn1 hkm1 HV
  go_wp2_with fail
  refine (HEnd.out _ hb2).mono ?_
  rintro e w3 ⟨rfl, hb3⟩
  have hx3 := below_from hb2 hb3
  go_wp2_with fail
  refine (HOffE.out _ hx3).mono ?_
  rintro e w4 ⟨rfl, hb4⟩
  have hx4 := below_from hx3 hb4
  go_wp2_with fail
  refine (HSize.out _ hx4).mono ?_
  rintro e w5 ⟨rfl, hb5⟩
  have hx5 := below_from hx4 hb5
  go_wp2_with fail
  refine (HAtn.out _ hx5).mono ?_
  rintro e w6 ⟨rfl, hb6⟩
  have hx6 := below_from hx5 hb6
  have hx6a : ∀ ob, Below w.heap.size w (w6.alloc ob) := fun ob => hx6.alloc hx6.size ob
  go_wp2_with fail
  refine (HAtm.out _ (hx6a _)).mono ?_
  rintro e w7 ⟨rfl, hb7⟩
  have hx7 := below_from (hx6a _) hb7
  have hx7a : ∀ ob, Below w.heap.size w (w7.alloc ob) := fun ob => hx7.alloc hx7.size ob
  have m11 := heap_below hb7 (heap_new _ _ rfl)
  obtain ⟨q0, qf⟩ := blk m11
  have qa := cell_on (q0 0)
  have qb := cell_on (q0 1)
  go_wp2_with fail
  refine (HOffP.out _ (hx7a _)).mono ?_
  rintro e w8 ⟨rfl, hb8⟩
  have hx8 := below_from (hx7a _) hb8
  have m11 := heap_below hb8 (heap_old _ _ m11)
  have m12 := heap_below hb8 (heap_new _ _ rfl)
  clear q0 qf qa qb
  go_wp2_with fail
  obtain ⟨B11, hB11⟩ : ∃ B11, w6.heap.size = B11 := ⟨_, rfl⟩
  obtain ⟨B12, hB12⟩ : ∃ B12, w7.heap.size = B12 := ⟨_, rfl⟩
  rw [hB11] at m11 ⊢
  rw [hB12] at m12 ⊢
  have HM := Lib.hid (And.intro m11 m12)
  have HS2 : Hid (∀ X : World, Below w8.heap.size w8 X → (fun w' => w'.cell? ⟨B11, 0, none⟩ = some (.int .i64 P.line) ∧ w'.cell? ⟨B11, 1, none⟩ = some (.int .i64 P.col)) X) := Lib.hid fun X hX => by
    have h1 := (blk (heap_below hX HM.out.1)).1
    exact ⟨h1 0, h1 1⟩
  clear m11 m12 hB11 hB12 hb2 hb3 hb4 hb5 hb6 hb7 hb8 hx6a hx7a hx3 hx4 hx5 hx6 hx7
  have hb0 : Below w8.heap.size w8 w8.drew := (Below.refl _ _).drew
  refine wp_region_noPanic ?_
  refine wp_region_held_drew (S := (fun w' => w'.cell? ⟨B11, 0, none⟩ = some (.int .i64 P.line) ∧ w'.cell? ⟨B11, 1, none⟩ = some (.int .i64 P.col))) (by kernel_rfl) (HS2.out _ hb0) (fun hHeld => ?_)
  obtain ⟨X0, hX0⟩ : ∃ X, w8.drew = X := ⟨_, rfl⟩
  rw [hX0] at hb0 hHeld ⊢
  clear hX0
  refine wpAnyH_take (i := 0) (v := ?_) (by simp only [List.getElem?_toArray, List.getElem?_cons_zero]; rfl) (by kernel_rfl) (by kernel_rfl) (by kernel_rfl) (fun _ _ _ h => h) (Or.inl ⟨by rfl, ?_⟩) (by assumption) ?_
  rotate_left 1
  · intro w hSw; (try dsimp only at hSw); go_simp; (first | done | with_reducible rfl)
  try simp only [Act.put, List.setIfInBounds_toArray, List.set_cons_zero, List.set_cons_succ]
  refine wpAnyH_take (i := 1) (v := ?_) (by simp only [List.getElem?_toArray, List.getElem?_cons_succ, List.getElem?_cons_zero]; rfl) (by kernel_rfl) (by kernel_rfl) (by kernel_rfl) (fun _ _ _ h => h) (Or.inl ⟨by rfl, ?_⟩) (by assumption) ?_
  rotate_left 1
  · intro w hSw; (try dsimp only at hSw); go_simp; (first | done | with_reducible rfl)
  try simp only [Act.put, List.setIfInBounds_toArray, List.set_cons_zero, List.set_cons_succ]
  refine wpAnyH_take (i := 2) (v := ?_) (by simp only [List.getElem?_toArray, List.getElem?_cons_succ, List.getElem?_cons_zero]; rfl) (by kernel_rfl) (by kernel_rfl) (by kernel_rfl) (fun _ _ _ h => h) (Or.inl ⟨by rfl, ?_⟩) (by assumption) ?_
  rotate_left 1
  · intro w hSw; (try dsimp only at hSw); go_simp; (first | done | with_reducible rfl)
  try simp only [Act.put, List.setIfInBounds_toArray, List.set_cons_zero, List.set_cons_succ]
  refine wpAnyH_take (i := 3) (v := ?_) (by simp only [List.getElem?_toArray, List.getElem?_cons_succ, List.getElem?_cons_zero]; rfl) (by kernel_rfl) (by kernel_rfl) (by kernel_rfl) (fun _ _ _ h => h) (Or.inl ⟨by rfl, ?_⟩) (by assumption) ?_
  rotate_left 1
  · intro w hSw; (try dsimp only at hSw); go_simp; (first | done | with_reducible rfl)
  try simp only [Act.put, List.setIfInBounds_toArray, List.set_cons_zero, List.set_cons_succ]
  refine wpAnyH_take (i := 4) (v := ?_) (by simp only [List.getElem?_toArray, List.getElem?_cons_succ, List.getElem?_cons_zero]; rfl) (by kernel_rfl) (by kernel_rfl) (by kernel_rfl) (fun _ _ _ h => h) (Or.inl ⟨by rfl, ?_⟩) (by assumption) ?_
  rotate_left 1
  · intro w hSw; (try dsimp only at hSw); go_simp; (first | done | with_reducible rfl)
  try simp only [Act.put, List.setIfInBounds_toArray, List.set_cons_zero, List.set_cons_succ]
  refine wpAnyH_take (i := 5) (v := ?_) (by simp only [List.getElem?_toArray, List.getElem?_cons_succ, List.getElem?_cons_zero]; rfl) (by kernel_rfl) (by kernel_rfl) (by kernel_rfl) (fun _ _ _ h => h) (Or.inl ⟨by rfl, ?_⟩) (by assumption) ?_
  rotate_left 1
  · intro w hSw; (try dsimp only at hSw); go_simp; (first | done | with_reducible rfl)
  try simp only [Act.put, List.setIfInBounds_toArray, List.set_cons_zero, List.set_cons_succ]
  refine wpAnyH_take (i := 6) (v := ?_) (by simp only [List.getElem?_toArray, List.getElem?_cons_succ, List.getElem?_cons_zero]; rfl) (by kernel_rfl) (by kernel_rfl) (by kernel_rfl) (fun _ _ _ h => h) (Or.inl ⟨by rfl, ?_⟩) (by assumption) ?_
  rotate_left 1
  · intro w hSw; (try dsimp only at hSw); go_simp; (first | done | with_reducible rfl)
  try simp only [Act.put, List.setIfInBounds_toArray, List.set_cons_zero, List.set_cons_succ]
  refine wpAnyH_take (i := 7) (v := ?_) (by simp only [List.getElem?_toArray, List.getElem?_cons_succ, List.getElem?_cons_zero]; rfl) (by kernel_rfl) (by kernel_rfl) (by kernel_rfl) (fun _ _ _ h => h) (Or.inl ⟨by rfl, ?_⟩) (by assumption) ?_
  rotate_left 1
  · intro w hSw; (try dsimp only at hSw); go_simp; (first | done | with_reducible rfl)
  try simp only [Act.put, List.setIfInBounds_toArray, List.set_cons_zero, List.set_cons_succ]
  refine wpAnyH_take (i := 8) (v := ?_) (by simp only [List.getElem?_toArray, List.getElem?_cons_succ, List.getElem?_cons_zero]; rfl) (by kernel_rfl) (by kernel_rfl) (by kernel_rfl) (fun _ _ _ h => h) (Or.inl ⟨by rfl, ?_⟩) (by assumption) ?_
  rotate_left 1
  · intro w hSw; (try dsimp only at hSw); go_simp; (first | done | with_reducible rfl)
  try simp only [Act.put, List.setIfInBounds_toArray, List.set_cons_zero, List.set_cons_succ]
  refine wpAnyH_take (i := 9) (v := ?_) (by simp only [List.getElem?_toArray, List.getElem?_cons_succ, List.getElem?_cons_zero]; rfl) (by kernel_rfl) (by kernel_rfl) (by kernel_rfl) (fun _ _ _ h => h) (Or.inl ⟨by rfl, ?_⟩) (by assumption) ?_
  rotate_left 1
  · intro w hSw; (try dsimp only at hSw); go_simp; (first | done | with_reducible rfl)
  try simp only [Act.put, List.setIfInBounds_toArray, List.set_cons_zero, List.set_cons_succ]
  refine wpAnyH_take (i := 10) (v := ?_) (by simp only [List.getElem?_toArray, List.getElem?_cons_succ, List.getElem?_cons_zero]; rfl) (by kernel_rfl) (by kernel_rfl) (by kernel_rfl) (fun _ _ _ h => h) (Or.inl ⟨by rfl, ?_⟩) (by assumption) ?_
  rotate_left 1
  · intro w hSw; (try dsimp only at hSw); go_simp; (first | done | with_reducible rfl)
  try simp only [Act.put, List.setIfInBounds_toArray, List.set_cons_zero, List.set_cons_succ]
  refine wpAnyH_take (i := 11) (v := ?_) (by simp only [List.getElem?_toArray, List.getElem?_cons_succ, List.getElem?_cons_zero]; rfl) (by kernel_rfl) (by kernel_rfl) (by kernel_rfl) (fun _ _ _ h => h) (Or.inl ⟨by rfl, ?_⟩) (by assumption) ?_
  rotate_left 1
  · intro w hSw; (try dsimp only at hSw); go_simp; (first | done | with_reducible rfl)
  try simp only [Act.put, List.setIfInBounds_toArray, List.set_cons_zero, List.set_cons_succ]
  refine wpAnyH_take (i := 12) (v := ?_) (by simp only [List.getElem?_toArray, List.getElem?_cons_succ, List.getElem?_cons_zero]; rfl) (by kernel_rfl) (by kernel_rfl) (by kernel_rfl) (fun _ _ _ h => h) (Or.inl ⟨by rfl, ?_⟩) (by assumption) ?_
  rotate_left 1
  · intro w hSw; (try dsimp only at hSw); go_simp; (first | done | with_reducible rfl)
  try simp only [Act.put, List.setIfInBounds_toArray, List.set_cons_zero, List.set_cons_succ]
  refine wpAnyH_take (i := 13) (v := ?_) (by simp only [List.getElem?_toArray, List.getElem?_cons_succ, List.getElem?_cons_zero]; rfl) (by kernel_rfl) (by kernel_rfl) (by kernel_rfl) (fun _ _ _ h => h) (Or.inl ⟨by rfl, ?_⟩) (by assumption) ?_
  rotate_left 1
  · intro w hSw; (try dsimp only at hSw); go_simp; (first | done | with_reducible rfl)
  try simp only [Act.put, List.setIfInBounds_toArray, List.set_cons_zero, List.set_cons_succ]
  refine wpAnyH_take (i := 14) (v := ?_) (by simp only [List.getElem?_toArray, List.getElem?_cons_succ, List.getElem?_cons_zero]; rfl) (by kernel_rfl) (by kernel_rfl) (by kernel_rfl) (fun _ _ _ h => h) (Or.inl ⟨by rfl, ?_⟩) (by assumption) ?_
  rotate_left 1
  · intro w hSw; (try dsimp only at hSw); go_simp; (first | done | with_reducible rfl)
  try simp only [Act.put, List.setIfInBounds_toArray, List.set_cons_zero, List.set_cons_succ]
  refine wpAnyH_take (i := 15) (v := ?_) (by simp only [List.getElem?_toArray, List.getElem?_cons_succ, List.getElem?_cons_zero]; rfl) (by kernel_rfl) (by kernel_rfl) (by kernel_rfl) (fun _ _ _ h => h) (Or.inl ⟨by rfl, ?_⟩) (by assumption) ?_
  rotate_left 1
  · intro w hSw; (try dsimp only at hSw); go_simp; (first | done | with_reducible rfl)
  try simp only [Act.put, List.setIfInBounds_toArray, List.set_cons_zero, List.set_cons_succ]
  refine wpAnyH_take (i := 16) (v := ?_) (by simp only [List.getElem?_toArray, List.getElem?_cons_succ, List.getElem?_cons_zero]; rfl) (by kernel_rfl) (by kernel_rfl) (by kernel_rfl) (fun _ _ _ h => h) (Or.inl ⟨by rfl, ?_⟩) (by assumption) ?_
  rotate_left 1
  · intro w hSw; (try dsimp only at hSw); go_simp; (first | done | with_reducible rfl)
  try simp only [Act.put, List.setIfInBounds_toArray, List.set_cons_zero, List.set_cons_succ]
  refine wpAnyH_take (i := 17) (v := ?_) (by simp only [List.getElem?_toArray, List.getElem?_cons_succ, List.getElem?_cons_zero]; rfl) (by kernel_rfl) (by kernel_rfl) (by kernel_rfl) (fun _ _ _ h => h) (Or.inl ⟨by rfl, ?_⟩) (by assumption) ?_
  rotate_left 1
  · intro w hSw; (try dsimp only at hSw); go_simp; (first | done | with_reducible rfl)
  try simp only [Act.put, List.setIfInBounds_toArray, List.set_cons_zero, List.set_cons_succ]
  refine wpAnyH_ready (rs := [18]) (by kernel_rfl) (by simp) ?_
  refine AllReadyH.cons (by simp only [List.getElem?_toArray, List.getElem?_cons_succ, List.getElem?_cons_zero]; rfl) (fun K hK => ?_) AllReadyH.nil
  go_simp
  refine (HIs.out _ (below_from hx8 hb0)).mono ?_
  rintro e X1 ⟨rfl, hst⟩
  have hb1 := below_from hb0 hst
  clear hHeld hst
  refine hK.out _ _ (HS2.out _ hb1) (fun hHeld => ?_)
  clear hK K hb0
  try simp only [Act.put, List.setIfInBounds_toArray, List.set_cons_zero, List.set_cons_succ]
  refine wpAnyH_take (i := 19) (v := ?_) (by simp only [List.getElem?_toArray, List.getElem?_cons_succ, List.getElem?_cons_zero]; rfl) (by kernel_rfl) (by kernel_rfl) (by kernel_rfl) (fun _ _ _ h => h) (Or.inl ⟨by rfl, ?_⟩) (by assumption) ?_
  rotate_left 1
  · intro w hSw; (try dsimp only at hSw); go_simp; (first | done | with_reducible rfl)
  try simp only [Act.put, List.setIfInBounds_toArray, List.set_cons_zero, List.set_cons_succ]
  refine wpAnyH_take (i := 20) (v := ?_) (by simp only [List.getElem?_toArray, List.getElem?_cons_succ, List.getElem?_cons_zero]; rfl) (by kernel_rfl) (by kernel_rfl) (by kernel_rfl) (fun _ _ _ h => h) (Or.inl ⟨by rfl, ?_⟩) (by assumption) ?_
  rotate_left 1
  · intro w hSw; (try dsimp only at hSw); go_simp; (first | done | with_reducible rfl)
  try simp only [Act.put, List.setIfInBounds_toArray, List.set_cons_zero, List.set_cons_succ]
  refine wpAnyH_take (i := 21) (v := ?_) (by simp only [List.getElem?_toArray, List.getElem?_cons_succ, List.getElem?_cons_zero]; rfl) (by kernel_rfl) (by kernel_rfl) (by kernel_rfl) (fun _ _ _ h => h) (Or.inl ⟨by rfl, ?_⟩) (by assumption) ?_
  rotate_left 1
  · intro w hSw; (try dsimp only at hSw); go_simp; (first | done | with_reducible rfl)
  try simp only [Act.put, List.setIfInBounds_toArray, List.set_cons_zero, List.set_cons_succ]
  refine wpAnyH_take (i := 22) (v := ?_) (by simp only [List.getElem?_toArray, List.getElem?_cons_succ, List.getElem?_cons_zero]; rfl) (by kernel_rfl) (by kernel_rfl) (by kernel_rfl) (fun _ _ _ h => h) (Or.inl ⟨by rfl, ?_⟩) (by assumption) ?_
  rotate_left 1
  · intro w hSw; (try dsimp only at hSw); go_simp; (first | done | with_reducible rfl)
  try simp only [Act.put, List.setIfInBounds_toArray, List.set_cons_zero, List.set_cons_succ]
  refine wpAnyH_take (i := 23) (v := ?_) (by simp only [List.getElem?_toArray, List.getElem?_cons_succ, List.getElem?_cons_zero]; rfl) (by kernel_rfl) (by kernel_rfl) (by kernel_rfl) (fun _ _ _ h => h) (Or.inl ⟨by rfl, ?_⟩) (by assumption) ?_
  rotate_left 1
  · intro w hSw; (try dsimp only at hSw); go_simp; (first | done | with_reducible rfl)
  try simp only [Act.put, List.setIfInBounds_toArray, List.set_cons_zero, List.set_cons_succ]
  refine wpAnyH_take (i := 25) (v := ?_) (by simp only [List.getElem?_toArray, List.getElem?_cons_succ, List.getElem?_cons_zero]; rfl) (by kernel_rfl) (by kernel_rfl) (by kernel_rfl) (fun _ _ _ h => h) (Or.inl ⟨by rfl, ?_⟩) (by assumption) ?_
  rotate_left 1
  · intro w hSw; (try dsimp only at hSw); go_simp; (first | done | with_reducible rfl)
  try simp only [Act.put, List.setIfInBounds_toArray, List.set_cons_zero, List.set_cons_succ]
  refine wpAnyH_ready (rs := [24]) (by kernel_rfl) (by simp) ?_
  refine AllReadyH.cons (by simp only [List.getElem?_toArray, List.getElem?_cons_succ, List.getElem?_cons_zero]; rfl) (fun K hK => ?_) AllReadyH.nil
  go_simp
  refine (HCl.out _ (below_from hx8 hb1)).mono ?_
  rintro e X2 ⟨rfl, hst⟩
  have hb2 := below_from hb1 hst
  clear hHeld hst
  refine hK.out _ _ (HS2.out _ hb2) (fun hHeld => ?_)
  clear hK K hb1
  try simp only [Act.put, List.setIfInBounds_toArray, List.set_cons_zero, List.set_cons_succ]
  refine wpAnyH_take (i := 26) (v := ?_) (by simp only [List.getElem?_toArray, List.getElem?_cons_succ, List.getElem?_cons_zero]; rfl) (by kernel_rfl) (by kernel_rfl) (by kernel_rfl) (fun _ _ _ h => h) (Or.inl ⟨by rfl, ?_⟩) (by assumption) ?_
  rotate_left 1
  · intro w hSw; (try dsimp only at hSw); go_simp; (first | done | with_reducible rfl)
  try simp only [Act.put, List.setIfInBounds_toArray, List.set_cons_zero, List.set_cons_succ]
  refine wpAnyH_take (i := 27) (v := ?_) (by simp only [List.getElem?_toArray, List.getElem?_cons_succ, List.getElem?_cons_zero]; rfl) (by kernel_rfl) (by kernel_rfl) (by kernel_rfl) (fun _ _ _ h => h) (Or.inl ⟨by rfl, ?_⟩) (by assumption) ?_
  rotate_left 1
  · intro w hSw; (try dsimp only at hSw); go_simp; (first | done | with_reducible rfl)
  try simp only [Act.put, List.setIfInBounds_toArray, List.set_cons_zero, List.set_cons_succ]
  refine wpAnyH_done (by kernel_rfl) ?_ _
  refine NoPanic.normal ?_
  clear hHeld HS2
  have hx := below_from hx8 hb2
  have m11 := heap_below hb2 HM.out.1
  have m12 := heap_below hb2 HM.out.2
  clear HM hb2
  obtain ⟨q0, qf⟩ := blk m11
  obtain ⟨r0, rf⟩ := blk m12
  go_wp2_with fail
  refine (HCmp.out _ hx).mono ?_
  rintro e Y1 ⟨rfl, hst⟩
  have hx1 := below_from hx hst
  have m11 := heap_below hst m11
  have m12 := heap_below hst m12
  clear q0 qf r0 rf hst
  have hcases : (kn < km ∧ cmpI kn km = -1) ∨ (km < kn ∧ cmpI kn km = 1) ∨ (kn = km ∧ cmpI kn km = 0) := by
    unfold cmpI
    rcases Nat.lt_trichotomy kn km with h | h | h
    · exact .inl ⟨h, if_pos (by omega)⟩
    · exact .inr (.inr ⟨h, by rw [if_neg (by omega), if_neg (by omega)]⟩)
    · exact .inr (.inl ⟨h, by rw [if_neg (by omega), if_pos (by omega)]⟩)
  obtain ⟨q0, qf⟩ := blk m11
  obtain ⟨r0, rf⟩ := blk m12
  have hfin : ∀ X, Below w.heap.size w X → X.heap[B11]? = some (.cells #[.int .i64 P.line, .int .i64 P.col] 29) → True := fun _ _ _ => trivial
  rcases hcases with ⟨h1, hc⟩ | ⟨h1, hc⟩ | ⟨h1, hc⟩
  case' inl =>
    have g1 : (kn : Int) < (km : Int) := by omega
    have g2 : ¬ km < kn := by omega
    have g3 : ¬ (km : Int) < (kn : Int) := by omega
    have g4 : ((kn : Int) == (km : Int)) = false := by simp; omega
    have g5 : ¬ kn = km := by omega
  case' inr.inl =>
    have g1 : (km : Int) < (kn : Int) := by omega
    have g2 : ¬ kn < km := by omega
    have g3 : ¬ (kn : Int) < (km : Int) := by omega
    have g4 : ((kn : Int) == (km : Int)) = false := by simp; omega
    have g5 : ¬ kn = km := by omega
  case' inr.inr =>
    have g1 : ¬ (km : Int) < (kn : Int) := by omega
    have g2 : ¬ kn < km := by omega
    have g3 : ¬ (kn : Int) < (km : Int) := by omega
    have g4 : ((kn : Int) == (km : Int)) = true := by simp; omega
    have g5 : ¬ km < kn := by omega
    clear h1
  all_goals
    rw [hc]
    clear hc hfin
    go_wp2_with fail
    refine (HStQ.out _ hx1).mono ?_
    rintro e Y2 ⟨rfl, hst⟩
    have hx2 := below_from hx1 hst
    have hx2a : ∀ ob, Below w.heap.size w (Y2.alloc ob) := fun ob => hx2.alloc hx2.size ob
    have m11 := heap_below hst m11
    have m12 := heap_below hst m12
    clear q0 qf r0 rf hst
    obtain ⟨q0, qf⟩ := blk m11
    obtain ⟨r0, rf⟩ := blk m12
    have qa := cell_on (q0 0)
    have qb := cell_on (q0 1)
    have ra := cell_on (r0 0)
    have rb := cell_on (r0 1)
    go_wp2_with fail
    refine (HStB.out _ (hx2a _)).mono ?_
    rintro e Y3 ⟨rfl, hst⟩
    have hx3 := below_from (hx2a _) hst
    have hx3a : ∀ ob, Below w.heap.size w (Y3.alloc ob) := fun ob => hx3.alloc hx3.size ob
    have m11 := heap_below hst (heap_old _ _ m11)
    clear q0 qf r0 rf qa qb ra rb hst m12
    cases s2
    · have HO := HOut.out rfl
      go_wp2_with fail
      obtain ⟨Z, hZ⟩ : ∃ Z, Y3.alloc (.cells #[.int .i64 s1.line, .int .i64 s1.col] 29) = Z := ⟨_, rfl⟩
      rw [hZ]
      have hxZ : Below w.heap.size w Z := hZ ▸ hx3a _
      have mZ : Z.heap[Y3.heap.size]? = some (.cells #[.int .i64 s1.line, .int .i64 s1.col] 29) := hZ ▸ heap_new _ _ rfl
      have HS2 : Hid (∀ X : World, Below Z.heap.size Z X → (fun w' => w'.cell? ⟨Y3.heap.size, 0, none⟩ = some (.int .i64 s1.line) ∧ w'.cell? ⟨Y3.heap.size, 1, none⟩ = some (.int .i64 s1.col)) X) := Lib.hid fun X hX => by
        have h1 := (blk (heap_below hX mZ)).1
        exact ⟨h1 0, h1 1⟩
      clear hZ mZ hx3a hx2a m11
      have hb0 : Below Z.heap.size Z Z.drew := (Below.refl _ _).drew
      refine wp_region_noPanic ?_
      refine wp_region_held_drew (S := (fun w' => w'.cell? ⟨Y3.heap.size, 0, none⟩ = some (.int .i64 s1.line) ∧ w'.cell? ⟨Y3.heap.size, 1, none⟩ = some (.int .i64 s1.col))) (by kernel_rfl) (HS2.out _ hb0) (fun hHeld => ?_)
      obtain ⟨X0, hX0⟩ : ∃ X, Z.drew = X := ⟨_, rfl⟩
      rw [hX0] at hb0 hHeld ⊢
      clear hX0
      rcases HO with ⟨hby, hse⟩ | ⟨hby, hse⟩
      · have he1 : s1.line = 0 := by rw [hse]
        have he2 : s1.col = 0 := by rw [hse]
        have hbn : ¬ 0 < by' := by omega
        clear hse
        refine wpAnyH_take (i := 0) (v := ?_) (by simp only [List.getElem?_toArray, List.getElem?_cons_zero]; rfl) (by kernel_rfl) (by kernel_rfl) (by kernel_rfl) (fun _ _ _ h => h) (Or.inl ⟨by rfl, ?_⟩) (by assumption) ?_
        rotate_left 1
        · intro w hSw; (try dsimp only at hSw); go_simp; (first | done | with_reducible rfl)
        try simp only [Act.put, List.setIfInBounds_toArray, List.set_cons_zero, List.set_cons_succ]
        refine wpAnyH_take (i := 1) (v := ?_) (by simp only [List.getElem?_toArray, List.getElem?_cons_succ, List.getElem?_cons_zero]; rfl) (by kernel_rfl) (by kernel_rfl) (by kernel_rfl) (fun _ _ _ h => h) (Or.inl ⟨by rfl, ?_⟩) (by assumption) ?_
        rotate_left 1
        · intro w hSw; (try dsimp only at hSw); go_simp; (first | done | with_reducible rfl)
        try simp only [Act.put, List.setIfInBounds_toArray, List.set_cons_zero, List.set_cons_succ]
        refine wpAnyH_take (i := 2) (v := ?_) (by simp only [List.getElem?_toArray, List.getElem?_cons_succ, List.getElem?_cons_zero]; rfl) (by kernel_rfl) (by kernel_rfl) (by kernel_rfl) (fun _ _ _ h => h) (Or.inl ⟨by rfl, ?_⟩) (by assumption) ?_
        rotate_left 1
        · intro w hSw; (try dsimp only at hSw); go_simp; (first | done | with_reducible rfl)
        try simp only [Act.put, List.setIfInBounds_toArray, List.set_cons_zero, List.set_cons_succ]
        refine wpAnyH_take (i := 3) (v := ?_) (by simp only [List.getElem?_toArray, List.getElem?_cons_succ, List.getElem?_cons_zero]; rfl) (by kernel_rfl) (by kernel_rfl) (by kernel_rfl) (fun _ _ _ h => h) (Or.inl ⟨by rfl, ?_⟩) (by assumption) ?_
        rotate_left 1
        · intro w hSw; (try dsimp only at hSw); go_simp; (first | done | with_reducible rfl)
        try simp only [Act.put, List.setIfInBounds_toArray, List.set_cons_zero, List.set_cons_succ]
        refine wpAnyH_take (i := 4) (v := ?_) (by simp only [List.getElem?_toArray, List.getElem?_cons_succ, List.getElem?_cons_zero]; rfl) (by kernel_rfl) (by kernel_rfl) (by kernel_rfl) (fun _ _ _ h => h) (Or.inl ⟨by rfl, ?_⟩) (by assumption) ?_
        rotate_left 1
        · intro w hSw; (try dsimp only at hSw); go_simp; (first | done | with_reducible rfl)
        try simp only [Act.put, List.setIfInBounds_toArray, List.set_cons_zero, List.set_cons_succ]
        refine wpAnyH_take (i := 5) (v := ?_) (by simp only [List.getElem?_toArray, List.getElem?_cons_succ, List.getElem?_cons_zero]; rfl) (by kernel_rfl) (by kernel_rfl) (by kernel_rfl) (fun _ _ _ h => h) (Or.inl ⟨by rfl, ?_⟩) (by assumption) ?_
        rotate_left 1
        · intro w hSw; (try dsimp only at hSw); go_simp; (first | done | with_reducible rfl)
        try simp only [Act.put, List.setIfInBounds_toArray, List.set_cons_zero, List.set_cons_succ]
        refine wpAnyH_take (i := 6) (v := ?_) (by simp only [List.getElem?_toArray, List.getElem?_cons_succ, List.getElem?_cons_zero]; rfl) (by kernel_rfl) (by kernel_rfl) (by kernel_rfl) (fun _ _ _ h => h) (Or.inl ⟨by rfl, ?_⟩) (by assumption) ?_
        rotate_left 1
        · intro w hSw; (try dsimp only at hSw); go_simp; (first | done | with_reducible rfl)
        try simp only [Act.put, List.setIfInBounds_toArray, List.set_cons_zero, List.set_cons_succ]
        refine wpAnyH_take (i := 7) (v := ?_) (by simp only [List.getElem?_toArray, List.getElem?_cons_succ, List.getElem?_cons_zero]; rfl) (by kernel_rfl) (by kernel_rfl) (by kernel_rfl) (fun _ _ _ h => h) (Or.inl ⟨by rfl, ?_⟩) (by assumption) ?_
        rotate_left 1
        · intro w hSw; (try dsimp only at hSw); go_simp; (first | done | with_reducible rfl)
        try simp only [Act.put, List.setIfInBounds_toArray, List.set_cons_zero, List.set_cons_succ]
        refine wpAnyH_take (i := 8) (v := undef) (by simp only [List.getElem?_toArray, List.getElem?_cons_succ, List.getElem?_cons_zero]; rfl) (by kernel_rfl) (by kernel_rfl) (by kernel_rfl) (fun _ _ _ h => h) (Or.inr ⟨by rfl, rfl⟩) (by assumption) ?_
        try simp only [Act.put, List.setIfInBounds_toArray, List.set_cons_zero, List.set_cons_succ]
        refine wpAnyH_take (i := 9) (v := undef) (by simp only [List.getElem?_toArray, List.getElem?_cons_succ, List.getElem?_cons_zero]; rfl) (by kernel_rfl) (by kernel_rfl) (by kernel_rfl) (fun _ _ _ h => h) (Or.inr ⟨by rfl, rfl⟩) (by assumption) ?_
        try simp only [Act.put, List.setIfInBounds_toArray, List.set_cons_zero, List.set_cons_succ]
        refine wpAnyH_take (i := 10) (v := undef) (by simp only [List.getElem?_toArray, List.getElem?_cons_succ, List.getElem?_cons_zero]; rfl) (by kernel_rfl) (by kernel_rfl) (by kernel_rfl) (fun _ _ _ h => h) (Or.inr ⟨by rfl, rfl⟩) (by assumption) ?_
        try simp only [Act.put, List.setIfInBounds_toArray, List.set_cons_zero, List.set_cons_succ]
        refine wpAnyH_take (i := 11) (v := undef) (by simp only [List.getElem?_toArray, List.getElem?_cons_succ, List.getElem?_cons_zero]; rfl) (by kernel_rfl) (by kernel_rfl) (by kernel_rfl) (fun _ _ _ h => h) (Or.inr ⟨by rfl, rfl⟩) (by assumption) ?_
        try simp only [Act.put, List.setIfInBounds_toArray, List.set_cons_zero, List.set_cons_succ]
        refine wpAnyH_take (i := 12) (v := undef) (by simp only [List.getElem?_toArray, List.getElem?_cons_succ, List.getElem?_cons_zero]; rfl) (by kernel_rfl) (by kernel_rfl) (by kernel_rfl) (fun _ _ _ h => h) (Or.inr ⟨by rfl, rfl⟩) (by assumption) ?_
        try simp only [Act.put, List.setIfInBounds_toArray, List.set_cons_zero, List.set_cons_succ]
        refine wpAnyH_take (i := 13) (v := undef) (by simp only [List.getElem?_toArray, List.getElem?_cons_succ, List.getElem?_cons_zero]; rfl) (by kernel_rfl) (by kernel_rfl) (by kernel_rfl) (fun _ _ _ h => h) (Or.inr ⟨by rfl, rfl⟩) (by assumption) ?_
        try simp only [Act.put, List.setIfInBounds_toArray, List.set_cons_zero, List.set_cons_succ]
        refine wpAnyH_take (i := 14) (v := undef) (by simp only [List.getElem?_toArray, List.getElem?_cons_succ, List.getElem?_cons_zero]; rfl) (by kernel_rfl) (by kernel_rfl) (by kernel_rfl) (fun _ _ _ h => h) (Or.inr ⟨by rfl, rfl⟩) (by assumption) ?_
        try simp only [Act.put, List.setIfInBounds_toArray, List.set_cons_zero, List.set_cons_succ]
        refine wpAnyH_take (i := 15) (v := undef) (by simp only [List.getElem?_toArray, List.getElem?_cons_succ, List.getElem?_cons_zero]; rfl) (by kernel_rfl) (by kernel_rfl) (by kernel_rfl) (fun _ _ _ h => h) (Or.inr ⟨by rfl, rfl⟩) (by assumption) ?_
        try simp only [Act.put, List.setIfInBounds_toArray, List.set_cons_zero, List.set_cons_succ]
        refine wpAnyH_take (i := 16) (v := ?_) (by simp only [List.getElem?_toArray, List.getElem?_cons_succ, List.getElem?_cons_zero]; rfl) (by kernel_rfl) (by kernel_rfl) (by kernel_rfl) (fun _ _ _ h => h) (Or.inl ⟨by rfl, ?_⟩) (by assumption) ?_
        rotate_left 1
        · intro w hSw; (try dsimp only at hSw); go_simp; (first | done | with_reducible rfl)
        try simp only [Act.put, List.setIfInBounds_toArray, List.set_cons_zero, List.set_cons_succ]
        refine wpAnyH_take (i := 17) (v := ?_) (by simp only [List.getElem?_toArray, List.getElem?_cons_succ, List.getElem?_cons_zero]; rfl) (by kernel_rfl) (by kernel_rfl) (by kernel_rfl) (fun _ _ _ h => h) (Or.inl ⟨by rfl, ?_⟩) (by assumption) ?_
        rotate_left 1
        · intro w hSw; (try dsimp only at hSw); go_simp; (first | done | with_reducible rfl)
        try simp only [Act.put, List.setIfInBounds_toArray, List.set_cons_zero, List.set_cons_succ]
        refine wpAnyH_ready (rs := [18]) (by kernel_rfl) (by simp) ?_
        refine AllReadyH.cons (by simp only [List.getElem?_toArray, List.getElem?_cons_succ, List.getElem?_cons_zero]; rfl) (fun K hK => ?_) AllReadyH.nil
        go_simp
        refine (HA.out _ (below_from hxZ hb0)).mono ?_
        rintro e X1 ⟨rfl, hst⟩
        have hb1 := below_from hb0 hst
        clear hHeld hst
        refine hK.out _ _ (HS2.out _ hb1) (fun hHeld => ?_)
        clear hK K hb0
        try simp only [Act.put, List.setIfInBounds_toArray, List.set_cons_zero, List.set_cons_succ]
        refine wpAnyH_take (i := 19) (v := ?_) (by simp only [List.getElem?_toArray, List.getElem?_cons_succ, List.getElem?_cons_zero]; rfl) (by kernel_rfl) (by kernel_rfl) (by kernel_rfl) (fun _ _ _ h => h) (Or.inl ⟨by rfl, ?_⟩) (by assumption) ?_
        rotate_left 1
        · intro w hSw; (try dsimp only at hSw); go_simp; (first | done | with_reducible rfl)
        try simp only [Act.put, List.setIfInBounds_toArray, List.set_cons_zero, List.set_cons_succ]
        refine wpAnyH_take (i := 20) (v := ?_) (by simp only [List.getElem?_toArray, List.getElem?_cons_succ, List.getElem?_cons_zero]; rfl) (by kernel_rfl) (by kernel_rfl) (by kernel_rfl) (fun _ _ _ h => h) (Or.inl ⟨by rfl, ?_⟩) (by assumption) ?_
        rotate_left 1
        · intro w hSw; (try dsimp only at hSw); go_simp; (first | done | with_reducible rfl)
        try simp only [Act.put, List.setIfInBounds_toArray, List.set_cons_zero, List.set_cons_succ]
        refine wpAnyH_done (by kernel_rfl) ?_ _
        refine NoPanic.normal ?_
        go_wp2_with fail
        go_ret
        exact ⟨rfl, below_from hxZ hb1⟩
      · subst hse
        have hbn : ¬ by' < 0 := by omega
        refine wpAnyH_take (i := 0) (v := ?_) (by simp only [List.getElem?_toArray, List.getElem?_cons_zero]; rfl) (by kernel_rfl) (by kernel_rfl) (by kernel_rfl) (fun _ _ _ h => h) (Or.inl ⟨by rfl, ?_⟩) (by assumption) ?_
        rotate_left 1
        · intro w hSw; (try dsimp only at hSw); go_simp; (first | done | with_reducible rfl)
        try simp only [Act.put, List.setIfInBounds_toArray, List.set_cons_zero, List.set_cons_succ]
        refine wpAnyH_take (i := 1) (v := ?_) (by simp only [List.getElem?_toArray, List.getElem?_cons_succ, List.getElem?_cons_zero]; rfl) (by kernel_rfl) (by kernel_rfl) (by kernel_rfl) (fun _ _ _ h => h) (Or.inl ⟨by rfl, ?_⟩) (by assumption) ?_
        rotate_left 1
        · intro w hSw; (try dsimp only at hSw); go_simp; (first | done | with_reducible rfl)
        try simp only [Act.put, List.setIfInBounds_toArray, List.set_cons_zero, List.set_cons_succ]
        refine wpAnyH_take (i := 2) (v := ?_) (by simp only [List.getElem?_toArray, List.getElem?_cons_succ, List.getElem?_cons_zero]; rfl) (by kernel_rfl) (by kernel_rfl) (by kernel_rfl) (fun _ _ _ h => h) (Or.inl ⟨by rfl, ?_⟩) (by assumption) ?_
        rotate_left 1
        · intro w hSw; (try dsimp only at hSw); go_simp; (first | done | with_reducible rfl)
        try simp only [Act.put, List.setIfInBounds_toArray, List.set_cons_zero, List.set_cons_succ]
        refine wpAnyH_take (i := 3) (v := undef) (by simp only [List.getElem?_toArray, List.getElem?_cons_succ, List.getElem?_cons_zero]; rfl) (by kernel_rfl) (by kernel_rfl) (by kernel_rfl) (fun _ _ _ h => h) (Or.inr ⟨by rfl, rfl⟩) (by assumption) ?_
        try simp only [Act.put, List.setIfInBounds_toArray, List.set_cons_zero, List.set_cons_succ]
        refine wpAnyH_take (i := 4) (v := undef) (by simp only [List.getElem?_toArray, List.getElem?_cons_succ, List.getElem?_cons_zero]; rfl) (by kernel_rfl) (by kernel_rfl) (by kernel_rfl) (fun _ _ _ h => h) (Or.inr ⟨by rfl, rfl⟩) (by assumption) ?_
        try simp only [Act.put, List.setIfInBounds_toArray, List.set_cons_zero, List.set_cons_succ]
        refine wpAnyH_take (i := 5) (v := undef) (by simp only [List.getElem?_toArray, List.getElem?_cons_succ, List.getElem?_cons_zero]; rfl) (by kernel_rfl) (by kernel_rfl) (by kernel_rfl) (fun _ _ _ h => h) (Or.inr ⟨by rfl, rfl⟩) (by assumption) ?_
        try simp only [Act.put, List.setIfInBounds_toArray, List.set_cons_zero, List.set_cons_succ]
        refine wpAnyH_take (i := 6) (v := ?_) (by simp only [List.getElem?_toArray, List.getElem?_cons_succ, List.getElem?_cons_zero]; rfl) (by kernel_rfl) (by kernel_rfl) (by kernel_rfl) (fun _ _ _ h => h) (Or.inl ⟨by rfl, ?_⟩) (by assumption) ?_
        rotate_left 1
        · intro w hSw; (try dsimp only at hSw); go_simp; (first | done | with_reducible rfl)
        try simp only [Act.put, List.setIfInBounds_toArray, List.set_cons_zero, List.set_cons_succ]
        refine wpAnyH_take (i := 7) (v := ?_) (by simp only [List.getElem?_toArray, List.getElem?_cons_succ, List.getElem?_cons_zero]; rfl) (by kernel_rfl) (by kernel_rfl) (by kernel_rfl) (fun _ _ _ h => h) (Or.inl ⟨by rfl, ?_⟩) (by assumption) ?_
        rotate_left 1
        · intro w hSw; (try dsimp only at hSw); go_simp; (first | done | with_reducible rfl)
        try simp only [Act.put, List.setIfInBounds_toArray, List.set_cons_zero, List.set_cons_succ]
        refine wpAnyH_take (i := 8) (v := ?_) (by simp only [List.getElem?_toArray, List.getElem?_cons_succ, List.getElem?_cons_zero]; rfl) (by kernel_rfl) (by kernel_rfl) (by kernel_rfl) (fun _ _ _ h => h) (Or.inl ⟨by rfl, ?_⟩) (by assumption) ?_
        rotate_left 1
        · intro w hSw; (try dsimp only at hSw); go_simp; (first | done | with_reducible rfl)
        try simp only [Act.put, List.setIfInBounds_toArray, List.set_cons_zero, List.set_cons_succ]
        refine wpAnyH_take (i := 9) (v := ?_) (by simp only [List.getElem?_toArray, List.getElem?_cons_succ, List.getElem?_cons_zero]; rfl) (by kernel_rfl) (by kernel_rfl) (by kernel_rfl) (fun _ _ _ h => h) (Or.inl ⟨by rfl, ?_⟩) (by assumption) ?_
        rotate_left 1
        · intro w hSw; (try dsimp only at hSw); go_simp; (first | done | with_reducible rfl)
        try simp only [Act.put, List.setIfInBounds_toArray, List.set_cons_zero, List.set_cons_succ]
        refine wpAnyH_take (i := 10) (v := ?_) (by simp only [List.getElem?_toArray, List.getElem?_cons_succ, List.getElem?_cons_zero]; rfl) (by kernel_rfl) (by kernel_rfl) (by kernel_rfl) (fun _ _ _ h => h) (Or.inl ⟨by rfl, ?_⟩) (by assumption) ?_
        rotate_left 1
        · intro w hSw; (try dsimp only at hSw); go_simp; (first | done | with_reducible rfl)
        try simp only [Act.put, List.setIfInBounds_toArray, List.set_cons_zero, List.set_cons_succ]
        refine wpAnyH_take (i := 11) (v := ?_) (by simp only [List.getElem?_toArray, List.getElem?_cons_succ, List.getElem?_cons_zero]; rfl) (by kernel_rfl) (by kernel_rfl) (by kernel_rfl) (fun _ _ _ h => h) (Or.inl ⟨by rfl, ?_⟩) (by assumption) ?_
        rotate_left 1
        · intro w hSw; (try dsimp only at hSw); go_simp; (first | done | with_reducible rfl)
        try simp only [Act.put, List.setIfInBounds_toArray, List.set_cons_zero, List.set_cons_succ]
        refine wpAnyH_take (i := 12) (v := ?_) (by simp only [List.getElem?_toArray, List.getElem?_cons_succ, List.getElem?_cons_zero]; rfl) (by kernel_rfl) (by kernel_rfl) (by kernel_rfl) (fun _ _ _ h => h) (Or.inl ⟨by rfl, ?_⟩) (by assumption) ?_
        rotate_left 1
        · intro w hSw; (try dsimp only at hSw); go_simp; (first | done | with_reducible rfl)
        try simp only [Act.put, List.setIfInBounds_toArray, List.set_cons_zero, List.set_cons_succ]
        refine wpAnyH_ready (rs := [13]) (by kernel_rfl) (by simp) ?_
        refine AllReadyH.cons (by simp only [List.getElem?_toArray, List.getElem?_cons_succ, List.getElem?_cons_zero]; rfl) (fun K hK => ?_) AllReadyH.nil
        go_simp
        refine (HEnd.out _ (below_from hxZ hb0)).mono ?_
        rintro e X1 ⟨rfl, hst⟩
        have hb1 := below_from hb0 hst
        clear hHeld hst
        refine hK.out _ _ (HS2.out _ hb1) (fun hHeld => ?_)
        clear hK K hb0
        try simp only [Act.put, List.setIfInBounds_toArray, List.set_cons_zero, List.set_cons_succ]
        refine wpAnyH_take (i := 14) (v := ?_) (by simp only [List.getElem?_toArray, List.getElem?_cons_succ, List.getElem?_cons_zero]; rfl) (by kernel_rfl) (by kernel_rfl) (by kernel_rfl) (fun _ _ _ h => h) (Or.inl ⟨by rfl, ?_⟩) (by assumption) ?_
        rotate_left 1
        · intro w hSw; (try dsimp only at hSw); go_simp; (first | done | with_reducible rfl)
        try simp only [Act.put, List.setIfInBounds_toArray, List.set_cons_zero, List.set_cons_succ]
        refine wpAnyH_take (i := 15) (v := ?_) (by simp only [List.getElem?_toArray, List.getElem?_cons_succ, List.getElem?_cons_zero]; rfl) (by kernel_rfl) (by kernel_rfl) (by kernel_rfl) (fun _ _ _ h => h) (Or.inl ⟨by rfl, ?_⟩) (by assumption) ?_
        rotate_left 1
        · intro w hSw; (try dsimp only at hSw); go_simp; (first | done | with_reducible rfl)
        try simp only [Act.put, List.setIfInBounds_toArray, List.set_cons_zero, List.set_cons_succ]
        refine wpAnyH_take (i := 16) (v := ?_) (by simp only [List.getElem?_toArray, List.getElem?_cons_succ, List.getElem?_cons_zero]; rfl) (by kernel_rfl) (by kernel_rfl) (by kernel_rfl) (fun _ _ _ h => h) (Or.inl ⟨by rfl, ?_⟩) (by assumption) ?_
        rotate_left 1
        · intro w hSw; (try dsimp only at hSw); go_simp; (first | done | with_reducible rfl)
        try simp only [Act.put, List.setIfInBounds_toArray, List.set_cons_zero, List.set_cons_succ]
        refine wpAnyH_take (i := 17) (v := ?_) (by simp only [List.getElem?_toArray, List.getElem?_cons_succ, List.getElem?_cons_zero]; rfl) (by kernel_rfl) (by kernel_rfl) (by kernel_rfl) (fun _ _ _ h => h) (Or.inl ⟨by rfl, ?_⟩) (by assumption) ?_
        rotate_left 1
        · intro w hSw; (try dsimp only at hSw); go_simp; (first | done | with_reducible rfl)
        try simp only [Act.put, List.setIfInBounds_toArray, List.set_cons_zero, List.set_cons_succ]
        refine wpAnyH_ready (rs := [18]) (by kernel_rfl) (by simp) ?_
        refine AllReadyH.cons (by simp only [List.getElem?_toArray, List.getElem?_cons_succ, List.getElem?_cons_zero]; rfl) (fun K hK => ?_) AllReadyH.nil
        go_simp
        refine (HA.out _ (below_from hxZ hb1)).mono ?_
        rintro e X2 ⟨rfl, hst⟩
        have hb2 := below_from hb1 hst
        clear hHeld hst
        refine hK.out _ _ (HS2.out _ hb2) (fun hHeld => ?_)
        clear hK K hb1
        try simp only [Act.put, List.setIfInBounds_toArray, List.set_cons_zero, List.set_cons_succ]
        refine wpAnyH_take (i := 19) (v := ?_) (by simp only [List.getElem?_toArray, List.getElem?_cons_succ, List.getElem?_cons_zero]; rfl) (by kernel_rfl) (by kernel_rfl) (by kernel_rfl) (fun _ _ _ h => h) (Or.inl ⟨by rfl, ?_⟩) (by assumption) ?_
        rotate_left 1
        · intro w hSw; (try dsimp only at hSw); go_simp; (first | done | with_reducible rfl)
        try simp only [Act.put, List.setIfInBounds_toArray, List.set_cons_zero, List.set_cons_succ]
        refine wpAnyH_take (i := 20) (v := ?_) (by simp only [List.getElem?_toArray, List.getElem?_cons_succ, List.getElem?_cons_zero]; rfl) (by kernel_rfl) (by kernel_rfl) (by kernel_rfl) (fun _ _ _ h => h) (Or.inl ⟨by rfl, ?_⟩) (by assumption) ?_
        rotate_left 1
        · intro w hSw; (try dsimp only at hSw); go_simp; (first | done | with_reducible rfl)
        try simp only [Act.put, List.setIfInBounds_toArray, List.set_cons_zero, List.set_cons_succ]
        refine wpAnyH_done (by kernel_rfl) ?_ _
        refine NoPanic.normal ?_
        go_wp2_with fail
        go_ret
        exact ⟨rfl, below_from hxZ hb2⟩
    · obtain ⟨⟨c1, c2⟩, hB2⟩ := HBk.out rfl
      have HB2 := Lib.hid hB2
      clear hB2
      go_wp2_with fail
      refine (HB2.out _ (hx3a _)).mono ?_
      rintro e Y4 ⟨rfl, hst⟩
      have hx4 := below_from (hx3a _) hst
      have m11 := heap_below hst (heap_old _ _ m11)
      clear hst
      obtain ⟨q0, qf⟩ := blk m11
      have qa := cell_on (q0 0)
      have qb := cell_on (q0 1)
      go_wp2_with fail
      refine (HA.out _ (hx4.alloc hx4.size _)).mono ?_
      rintro e Y5 ⟨rfl, hst⟩
      go_wp2_with fail
      go_ret
      exact ⟨rfl, below_from (hx4.alloc hx4.size _) hst⟩
end Go.Proofs.YtfoiaoopbkcpoaaDoor
