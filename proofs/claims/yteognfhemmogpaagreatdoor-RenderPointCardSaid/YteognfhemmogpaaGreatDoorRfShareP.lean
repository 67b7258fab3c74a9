/- The walk of slices.Repeat at one tag. -/
import Derived.Test.YteognfhemmogpaaGreatDoorRenBaseP
import Derived.Deep.OwnRows
import Derived.Test.YteognfhemmogpaaGreatDoorRenPartsP
import Derived.Test.YteognfhemmogpaaGreatDoorTellsP
set_option linter.unusedVariables false
set_option linter.unusedSimpArgs false
namespace Go.Proofs.YteognfhemmogpaaGreatDoor
open Go.RowKit
open Go.Proofs.Qw
attribute [local go_sem ↓] Go.wp_at_zero Go.wp_at_succ
set_option maxHeartbeats 1000000 in
theorem mul_0 (w : World) : Calls Tryz.prog 40 #[.int .u64 1, .int .u64 0] w fun e w' => e = .returned (.tuple #[.int .u64 0, .int .u64 0]) ∧ w' = w := by
 go_enter Tryz.func40, Tryz.ntmps40
 go_wp2
 go_ret2
 exact ⟨rfl, rfl⟩
set_option maxHeartbeats 1000000 in
theorem mul_1 (w : World) : Calls Tryz.prog 40 #[.int .u64 1, .int .u64 1] w fun e w' => e = .returned (.tuple #[.int .u64 0, .int .u64 1]) ∧ w' = w := by
 go_enter Tryz.func40, Tryz.ntmps40
 go_wp2
 go_ret2
 exact ⟨rfl, rfl⟩
set_option maxHeartbeats 1000000 in
theorem mul_2 (w : World) : Calls Tryz.prog 40 #[.int .u64 1, .int .u64 2] w fun e w' => e = .returned (.tuple #[.int .u64 0, .int .u64 2]) ∧ w' = w := by
 go_enter Tryz.func40, Tryz.ntmps40
 go_wp2
 go_ret2
 exact ⟨rfl, rfl⟩
set_option maxHeartbeats 1000000 in
theorem mul_3 (w : World) : Calls Tryz.prog 40 #[.int .u64 1, .int .u64 3] w fun e w' => e = .returned (.tuple #[.int .u64 0, .int .u64 3]) ∧ w' = w := by
 go_enter Tryz.func40, Tryz.ntmps40
 go_wp2
 go_ret2
 exact ⟨rfl, rfl⟩
set_option maxHeartbeats 1000000 in
theorem mul_4 (w : World) : Calls Tryz.prog 40 #[.int .u64 1, .int .u64 4] w fun e w' => e = .returned (.tuple #[.int .u64 0, .int .u64 4]) ∧ w' = w := by
 go_enter Tryz.func40, Tryz.ntmps40
 go_wp2
 go_ret2
 exact ⟨rfl, rfl⟩
set_option maxHeartbeats 1000000 in
theorem mul_5 (w : World) : Calls Tryz.prog 40 #[.int .u64 1, .int .u64 5] w fun e w' => e = .returned (.tuple #[.int .u64 0, .int .u64 5]) ∧ w' = w := by
 go_enter Tryz.func40, Tryz.ntmps40
 go_wp2
 go_ret2
 exact ⟨rfl, rfl⟩
set_option maxHeartbeats 1000000 in
theorem mul_6 (w : World) : Calls Tryz.prog 40 #[.int .u64 1, .int .u64 6] w fun e w' => e = .returned (.tuple #[.int .u64 0, .int .u64 6]) ∧ w' = w := by
 go_enter Tryz.func40, Tryz.ntmps40
 go_wp2
 go_ret2
 exact ⟨rfl, rfl⟩
def sixes (q a : Nat) : List Value := List.replicate a (.int .i64 6) ++ List.replicate (q - a) (.int .i64 0)
theorem sixes_len {q a : Nat} (h : a ≤ q) : (sixes q a).length = q := by unfold sixes; simp; omega
theorem sixes_get {q a j : Nat} (h : j < a) : (sixes q a)[j]? = some (.int .i64 6) := by
 unfold sixes
 rw [List.getElem?_append_left (by simpa using h), List.getElem?_replicate, if_pos h]
theorem sixes_put {q a m : Nat} (h : a + m ≤ q) : (sixes q a).take a ++ List.replicate m (.int .i64 6) ++ (sixes q a).drop (a + m) = sixes q (a + m) := by
 apply List.ext_getElem?
 intro i
 unfold sixes
 simp only [List.getElem?_append, List.length_append, List.length_take, List.length_replicate, List.getElem?_take, List.getElem?_replicate, List.getElem?_drop]
 repeat' split
 all_goals first | rfl | omega | (congr 1; done) | skip
 all_goals (try simp_all) <;> omega
theorem put_cells (w : World) (b o : Nat) (l cs : List Value) (t : TypeId) (h : w.heap[b]? = some (.cells cs.toArray t)) (hl : o + l.length ≤ cs.length) :
  (w.setCells b o l).heap[b]? = some (.cells (cs.take o ++ l ++ cs.drop (o + l.length)).toArray t) := by
 obtain ⟨cs', h1, h2, h3, h4⟩ := setCells_heap l w b o cs.toArray t (0, 0) h (by simpa using hl)
 rw [h1]
 congr 2
 apply Array.ext_getElem?
 intro i
 by_cases hi : i < o
 ·rw [h3 i (.inl hi)]
  simp only [List.getElem?_toArray]
  rw [List.append_assoc, List.getElem?_append_left (by rw [List.length_take]; omega), List.getElem?_take, if_pos hi]
 ·by_cases hi2 : i < o + l.length
  ·have h5 := h4 (i - o) (l[i - o]'(by omega)) (by simp)
   rw [show o + (i - o) = i by omega] at h5
   rw [h5]
   simp only [List.getElem?_toArray]
   rw [List.append_assoc, List.getElem?_append_right (by rw [List.length_take]; omega), List.length_take, show i - min o cs.length = i - o by omega, List.getElem?_append_left (by omega)]
   simp
  ·rw [h3 i (.inr (by omega))]
   simp only [List.getElem?_toArray]
   rw [List.getElem?_append_right (by rw [List.length_append, List.length_take]; omega), List.getElem?_drop]
   congr 1
   rw [List.length_append, List.length_take]
   omega
theorem infoInt : (Tryz.prog.info? 3).map (·.size) = some 1 := by kernel_rfl
theorem copy_six (W : World) (N B q a m sl sc : Nat) (hB : W.heap[N]? = some (.cells (sixes q a).toArray 3)) (hq : a ≤ q) (hm : m = Nat.min sl (q - a)) (hs : ∀ j, j < m → W.cell? ⟨B, j, none⟩ = some (.int .i64 6)) :
  (Builtin.copy_ #[27, 27] 3 #[.slice (some ⟨N, a, none⟩) (q - a) (q - a), .slice (some ⟨B, 0, none⟩) sl sc]).run Tryz.prog W = .ok (.int .i64 m) (W.setCells N a (List.replicate m (.int .i64 6))) := by
 have hml : m ≤ q - a := by rw [hm]; exact Nat.min_le_right _ _
 have h := run_copy_cells (P := Tryz.prog) W 27 27 3 3 N a (q - a) (q - a) ⟨B, 0, none⟩ sl sc (List.replicate m (.int .i64 6)) Tryz.underlying27 infoInt (by simpa using hm)
  (fun j v hv => by
   rw [List.getElem?_replicate] at hv
   split at hv
   ·cases hv
    rw [WideShapes.add_plain, Nat.zero_add]
    exact hs j (by assumption)
   ·cases hv)
  (fun j hj => by
   rw [List.length_replicate] at hj
   rw [cell_of_heap hB]
   simp only [List.getElem?_toArray]
   rw [List.getElem?_eq_getElem (by rw [sixes_len hq]; omega)]
   rfl)
  (fun j hj => frozen_of_heap hB) (fun v hv => by rw [List.eq_of_mem_replicate hv]; rfl)
 rw [h]
 simp [goInt]
theorem six_row {q : Nat} {W : World} {N n : Nat} (hn : n ≤ N) (hq : q ≤ 6) (hB : W.heap[N]? = some (.cells (sixes q q).toArray 3)) : IntsR true W (fun b => n ≤ b) (.slice (some ⟨N, 0, none⟩) q q) (List.replicate q 6) := by
 have hlt := (Array.getElem?_eq_some_iff.1 hB).1
 refine ⟨_, q, by simp, by simp, by unfold maxLen; omega, .inr ⟨N, 0, rfl, hn, hlt, fun _ => ⟨_, hB, by simp [sixes_len (Nat.le_refl q)]⟩, fun i x hx => ?_⟩⟩
 have hi : i < q := by have := (List.getElem?_eq_some_iff.1 hx).1; simpa using this
 rw [List.getElem?_replicate, if_pos hi] at hx
 cases hx
 refine ⟨[.int .i64 6], rfl, rfl, fun j u hu => ?_⟩
 match j, hu with
 | 0, hu =>
  cases hu
  rw [cell_of_heap hB]
  simp only [List.getElem?_toArray, Nat.zero_add, Nat.mul_one, Nat.add_zero]
  exact sixes_get hi
set_option maxRecDepth 100000 in
set_option maxHeartbeats 4000000 in
theorem rep_0 (B : Nat) (w : World) (hB : w.heap[B]? = some (.cells #[.int .i64 6] 3)) : Calls Tryz.prog 22 #[.slice (some ⟨B, 0, none⟩) 1 1, .int .i64 0] w fun e w' => ∃ v', e = .returned v' ∧ IntsR true w' (fun b => w.heap.size ≤ b) v' (List.replicate 0 6) ∧ Below w.heap.size w w' := by
 obtain ⟨q0, f0⟩ := blk hB
 have hlt : B < w.heap.size := (Array.getElem?_eq_some_iff.1 hB).1
 obtain ⟨W1, hW1⟩ : ∃ W1, w.alloc (.cells (sixes 0 0).toArray 3) = W1 := ⟨_, rfl⟩
 have hmk : (Instr.makeSlice 27 (.int .i64 0) (.int .i64 0)).run Tryz.prog w = .ok (.slice (some ⟨w.heap.size, 0, none⟩) 0 0) W1 := by
  have h := run_make_row' (P := Tryz.prog) 27 3 (.int .i64 0) 8 Tryz.underlying27 (by kernel_rfl) rfl .i64 .i64 0 (by omega) (by omega) w
  have e : madeCells #[Value.int .i64 0] 0 = (sixes 0 0).toArray := by kernel_rfl
  rw [← hW1, ← e]
  exact h
 have hb1 : Below w.heap.size w W1 := hW1 ▸ (Below.refl _ _).alloc (Nat.le_refl _) _
 have hN : W1.heap[w.heap.size]? = some (.cells (sixes 0 0).toArray 3) := hW1 ▸ heap_new _ _ rfl
 have hcp := copy_six W1 w.heap.size B 0 0 (Nat.min 1 0) 1 1 hN (Nat.zero_le _) rfl (fun j hj => by
  have : j = 0 := by have : Nat.min 1 0 ≤ 1 := Nat.min_le_left _ _; omega
  subst this
  rw [(blk (heap_below hb1 hB)).1 0]; rfl)
 have hp1 := put_cells W1 w.heap.size 0 (List.replicate (Nat.min 1 0) (.int .i64 6)) (sixes 0 0) 3 hN (by rw [sixes_len (Nat.zero_le _), List.length_replicate]; decide)
 rw [List.length_replicate, sixes_put (q := 0) (a := 0) (m := Nat.min 1 0) (by decide)] at hp1
 have hb2 : Below w.heap.size w (W1.setCells w.heap.size 0 (List.replicate (Nat.min 1 0) (.int .i64 6))) := hb1.trans (setCells_below (Nat.le_refl _))
 have HCP : Hid ((Builtin.copy_ #[27, 27] 3 #[.slice (some ⟨w.heap.size, 0, none⟩) 0 0, .slice (some ⟨B, 0, none⟩) 1 1]).run Tryz.prog W1 = .ok (.int .i64 ((Nat.min 1 0 : Nat) : Int)) (W1.setCells w.heap.size 0 (List.replicate (Nat.min 1 0) (.int .i64 6)))) := Lib.hid hcp
 obtain ⟨W2, hW2⟩ : ∃ W2, W1.setCells w.heap.size 0 (List.replicate (Nat.min 1 0) (.int .i64 6)) = W2 := ⟨_, rfl⟩
 rw [hW2] at HCP hp1 hb2
 have HP1 := Lib.hid hp1
 have HB2 := Lib.hid hb2
 clear hcp hp1 hb2 hW2 hN hb1 hW1 q0 f0 hB
 go_enter Tryz.func22, Tryz.ntmps22
 go_wp2_with (first
  | (go_at_call 40; refine (mul_0 _).mono ?_; rintro e w2 ⟨rfl, hw2⟩; obtain rfl := hw2.symm)
  | (refine wpList_copy_run _ rfl _ _ _ _ rfl _ _ rfl rfl _ _ HCP.out ?_))
 go_loopw [8] (fun n wr => ∃ a : Nat, Nat.min 1 0 ≤ a ∧ a ≤ 0 ∧ n = .int .i64 a ∧ Hid (wr.heap[w.heap.size]? = some (.cells (sixes 0 a).toArray 3)) ∧ Hid (Below w.heap.size w wr)) (fun n _ => 0 - (intOf n).toNat)
 case atStart => exact ⟨Nat.min 1 0, Nat.le_refl _, by decide, rfl, HP1, HB2⟩
 case round =>
  obtain ⟨a, ha1, ha2, rfl, HN, HBr⟩ := hrel
  by_cases hlt2 : a < 0
  ·exact absurd hlt2 (Nat.not_lt_zero _)
  ·obtain rfl : a = 0 := by omega
   have HRow := Lib.hid (six_row (n := w.heap.size) (Nat.le_refl _) (by omega) HN.out)
   go_wp2_with fail
   go_ret
   exact ⟨_, rfl, HRow.out, HBr.out⟩
set_option maxRecDepth 100000 in
set_option maxHeartbeats 4000000 in
theorem rep_1 (B : Nat) (w : World) (hB : w.heap[B]? = some (.cells #[.int .i64 6] 3)) : Calls Tryz.prog 22 #[.slice (some ⟨B, 0, none⟩) 1 1, .int .i64 1] w fun e w' => ∃ v', e = .returned v' ∧ IntsR true w' (fun b => w.heap.size ≤ b) v' (List.replicate 1 6) ∧ Below w.heap.size w w' := by
 obtain ⟨q0, f0⟩ := blk hB
 have hlt : B < w.heap.size := (Array.getElem?_eq_some_iff.1 hB).1
 obtain ⟨W1, hW1⟩ : ∃ W1, w.alloc (.cells (sixes 1 0).toArray 3) = W1 := ⟨_, rfl⟩
 have hmk : (Instr.makeSlice 27 (.int .i64 1) (.int .i64 1)).run Tryz.prog w = .ok (.slice (some ⟨w.heap.size, 0, none⟩) 1 1) W1 := by
  have h := run_make_row' (P := Tryz.prog) 27 3 (.int .i64 0) 8 Tryz.underlying27 (by kernel_rfl) rfl .i64 .i64 1 (by omega) (by omega) w
  have e : madeCells #[Value.int .i64 0] 1 = (sixes 1 0).toArray := by kernel_rfl
  rw [← hW1, ← e]
  exact h
 have hb1 : Below w.heap.size w W1 := hW1 ▸ (Below.refl _ _).alloc (Nat.le_refl _) _
 have hN : W1.heap[w.heap.size]? = some (.cells (sixes 1 0).toArray 3) := hW1 ▸ heap_new _ _ rfl
 have hcp := copy_six W1 w.heap.size B 1 0 (Nat.min 1 1) 1 1 hN (Nat.zero_le _) rfl (fun j hj => by
  have : j = 0 := by have : Nat.min 1 1 ≤ 1 := Nat.min_le_left _ _; omega
  subst this
  rw [(blk (heap_below hb1 hB)).1 0]; rfl)
 have hp1 := put_cells W1 w.heap.size 0 (List.replicate (Nat.min 1 1) (.int .i64 6)) (sixes 1 0) 3 hN (by rw [sixes_len (Nat.zero_le _), List.length_replicate]; decide)
 rw [List.length_replicate, sixes_put (q := 1) (a := 0) (m := Nat.min 1 1) (by decide)] at hp1
 have hb2 : Below w.heap.size w (W1.setCells w.heap.size 0 (List.replicate (Nat.min 1 1) (.int .i64 6))) := hb1.trans (setCells_below (Nat.le_refl _))
 have HCP : Hid ((Builtin.copy_ #[27, 27] 3 #[.slice (some ⟨w.heap.size, 0, none⟩) 1 1, .slice (some ⟨B, 0, none⟩) 1 1]).run Tryz.prog W1 = .ok (.int .i64 ((Nat.min 1 1 : Nat) : Int)) (W1.setCells w.heap.size 0 (List.replicate (Nat.min 1 1) (.int .i64 6)))) := Lib.hid hcp
 obtain ⟨W2, hW2⟩ : ∃ W2, W1.setCells w.heap.size 0 (List.replicate (Nat.min 1 1) (.int .i64 6)) = W2 := ⟨_, rfl⟩
 rw [hW2] at HCP hp1 hb2
 have HP1 := Lib.hid hp1
 have HB2 := Lib.hid hb2
 clear hcp hp1 hb2 hW2 hN hb1 hW1 q0 f0 hB
 go_enter Tryz.func22, Tryz.ntmps22
 go_wp2_with (first
  | (go_at_call 40; refine (mul_1 _).mono ?_; rintro e w2 ⟨rfl, hw2⟩; obtain rfl := hw2.symm)
  | (refine wpList_copy_run _ rfl _ _ _ _ rfl _ _ rfl rfl _ _ HCP.out ?_))
 go_loopw [8] (fun n wr => ∃ a : Nat, Nat.min 1 1 ≤ a ∧ a ≤ 1 ∧ n = .int .i64 a ∧ Hid (wr.heap[w.heap.size]? = some (.cells (sixes 1 a).toArray 3)) ∧ Hid (Below w.heap.size w wr)) (fun n _ => 1 - (intOf n).toNat)
 case atStart => exact ⟨Nat.min 1 1, Nat.le_refl _, by decide, rfl, HP1, HB2⟩
 case round =>
  obtain ⟨a, ha1, ha2, rfl, HN, HBr⟩ := hrel
  by_cases hlt2 : a < 1
  ·exact absurd hlt2 (by have : 1 ≤ a := ha1; omega)
  ·obtain rfl : a = 1 := by omega
   have HRow := Lib.hid (six_row (n := w.heap.size) (Nat.le_refl _) (by omega) HN.out)
   go_wp2_with fail
   go_ret
   exact ⟨_, rfl, HRow.out, HBr.out⟩
set_option maxRecDepth 100000 in
set_option maxHeartbeats 4000000 in
theorem rep_2 (B : Nat) (w : World) (hB : w.heap[B]? = some (.cells #[.int .i64 6] 3)) : Calls Tryz.prog 22 #[.slice (some ⟨B, 0, none⟩) 1 1, .int .i64 2] w fun e w' => ∃ v', e = .returned v' ∧ IntsR true w' (fun b => w.heap.size ≤ b) v' (List.replicate 2 6) ∧ Below w.heap.size w w' := by
 obtain ⟨q0, f0⟩ := blk hB
 have hlt : B < w.heap.size := (Array.getElem?_eq_some_iff.1 hB).1
 obtain ⟨W1, hW1⟩ : ∃ W1, w.alloc (.cells (sixes 2 0).toArray 3) = W1 := ⟨_, rfl⟩
 have hmk : (Instr.makeSlice 27 (.int .i64 2) (.int .i64 2)).run Tryz.prog w = .ok (.slice (some ⟨w.heap.size, 0, none⟩) 2 2) W1 := by
  have h := run_make_row' (P := Tryz.prog) 27 3 (.int .i64 0) 8 Tryz.underlying27 (by kernel_rfl) rfl .i64 .i64 2 (by omega) (by omega) w
  have e : madeCells #[Value.int .i64 0] 2 = (sixes 2 0).toArray := by kernel_rfl
  rw [← hW1, ← e]
  exact h
 have hb1 : Below w.heap.size w W1 := hW1 ▸ (Below.refl _ _).alloc (Nat.le_refl _) _
 have hN : W1.heap[w.heap.size]? = some (.cells (sixes 2 0).toArray 3) := hW1 ▸ heap_new _ _ rfl
 have hcp := copy_six W1 w.heap.size B 2 0 (Nat.min 1 2) 1 1 hN (Nat.zero_le _) rfl (fun j hj => by
  have : j = 0 := by have : Nat.min 1 2 ≤ 1 := Nat.min_le_left _ _; omega
  subst this
  rw [(blk (heap_below hb1 hB)).1 0]; rfl)
 have hp1 := put_cells W1 w.heap.size 0 (List.replicate (Nat.min 1 2) (.int .i64 6)) (sixes 2 0) 3 hN (by rw [sixes_len (Nat.zero_le _), List.length_replicate]; decide)
 rw [List.length_replicate, sixes_put (q := 2) (a := 0) (m := Nat.min 1 2) (by decide)] at hp1
 have hb2 : Below w.heap.size w (W1.setCells w.heap.size 0 (List.replicate (Nat.min 1 2) (.int .i64 6))) := hb1.trans (setCells_below (Nat.le_refl _))
 have HCP : Hid ((Builtin.copy_ #[27, 27] 3 #[.slice (some ⟨w.heap.size, 0, none⟩) 2 2, .slice (some ⟨B, 0, none⟩) 1 1]).run Tryz.prog W1 = .ok (.int .i64 ((Nat.min 1 2 : Nat) : Int)) (W1.setCells w.heap.size 0 (List.replicate (Nat.min 1 2) (.int .i64 6)))) := Lib.hid hcp
 obtain ⟨W2, hW2⟩ : ∃ W2, W1.setCells w.heap.size 0 (List.replicate (Nat.min 1 2) (.int .i64 6)) = W2 := ⟨_, rfl⟩
 rw [hW2] at HCP hp1 hb2
 have HP1 := Lib.hid hp1
 have HB2 := Lib.hid hb2
 clear hcp hp1 hb2 hW2 hN hb1 hW1 q0 f0 hB
 go_enter Tryz.func22, Tryz.ntmps22
 go_wp2_with (first
  | (go_at_call 40; refine (mul_2 _).mono ?_; rintro e w2 ⟨rfl, hw2⟩; obtain rfl := hw2.symm)
  | (refine wpList_copy_run _ rfl _ _ _ _ rfl _ _ rfl rfl _ _ HCP.out ?_))
 go_loopw [8] (fun n wr => ∃ a : Nat, Nat.min 1 2 ≤ a ∧ a ≤ 2 ∧ n = .int .i64 a ∧ Hid (wr.heap[w.heap.size]? = some (.cells (sixes 2 a).toArray 3)) ∧ Hid (Below w.heap.size w wr)) (fun n _ => 2 - (intOf n).toNat)
 case atStart => exact ⟨Nat.min 1 2, Nat.le_refl _, by decide, rfl, HP1, HB2⟩
 case round =>
  obtain ⟨a, ha1, ha2, rfl, HN, HBr⟩ := hrel
  by_cases hlt2 : a < 2
  ·have ha0 : Nat.min 1 2 ≤ a := ha1
   have hN := HN.out
   have hcp := copy_six wr.drew w.heap.size w.heap.size 2 a (Nat.min a (2 - a)) a 2 hN ha2 rfl (fun j hj => by
    have : Nat.min a (2 - a) ≤ a := Nat.min_le_left _ _
    rw [cell_of_heap (w := wr.drew) (B := w.heap.size) hN]
    simp only [List.getElem?_toArray]
    exact sixes_get (by omega))
   have hml : Nat.min a (2 - a) ≤ 2 - a := Nat.min_le_right _ _
   have hma : Nat.min a (2 - a) ≤ a := Nat.min_le_left _ _
   obtain ⟨m, hm⟩ : ∃ m, Nat.min a (2 - a) = m := ⟨_, rfl⟩
   have hm0 : 0 < m := by
    rw [← hm]
    have h1 : 0 < a := by first | omega | exact Nat.lt_of_lt_of_le (by decide) ha0
    exact Nat.lt_min.2 ⟨h1, by omega⟩
   rw [hm] at hcp hml hma
   have hp := put_cells wr.drew w.heap.size a (List.replicate m (.int .i64 6)) (sixes 2 a) 3 hN (by rw [sixes_len ha2, List.length_replicate]; omega)
   rw [List.length_replicate, sixes_put (by omega)] at hp
   have hb3 : Below w.heap.size w (wr.drew.setCells w.heap.size a (List.replicate m (.int .i64 6))) := HBr.out.drew.trans (setCells_below (Nat.le_refl _))
   have HC2 := Lib.hid hcp
   have HP := Lib.hid hp
   have HB3 := Lib.hid hb3
   have hne : ¬ 2 = a := by omega
   have hne2 : ¬ a = 2 := by omega
   have j0 : (0 : Int) ≤ (a : Int) := Int.natCast_nonneg _
   have j1 : (a : Int) ≤ 2 := by omega
   clear hcp hp hb3 hN hm ha0
   have HM0 := Lib.hid (And.intro hm0 (And.intro hml ha1))
   have hw9 : IntKind.i64.wrap ((a : Int) + (m : Int)) = ((a + m : Nat) : Int) := by rw [IntKind.wrap_i64]; omega
   go_wp2_with fail
   go_region_held3 (fun _ => True) (trivial) ((refine step_copy_run (by rfl) _ _ _ _ (by rfl) _ _ (by rfl) (by rfl) _ _ HC2.out ?_))
   go_wp2_with fail
   go_roundw
   case rel => exact ⟨a + m, by have := HM0.out; omega, by have := HM0.out; omega, by go_num, HP, HB3⟩
   case measure => have := HM0.out; simp only [intOf]; omega
  ·obtain rfl : a = 2 := by omega
   have HRow := Lib.hid (six_row (n := w.heap.size) (Nat.le_refl _) (by omega) HN.out)
   go_wp2_with fail
   go_ret
   exact ⟨_, rfl, HRow.out, HBr.out⟩
set_option maxRecDepth 100000 in
set_option maxHeartbeats 4000000 in
theorem rep_3 (B : Nat) (w : World) (hB : w.heap[B]? = some (.cells #[.int .i64 6] 3)) : Calls Tryz.prog 22 #[.slice (some ⟨B, 0, none⟩) 1 1, .int .i64 3] w fun e w' => ∃ v', e = .returned v' ∧ IntsR true w' (fun b => w.heap.size ≤ b) v' (List.replicate 3 6) ∧ Below w.heap.size w w' := by
 obtain ⟨q0, f0⟩ := blk hB
 have hlt : B < w.heap.size := (Array.getElem?_eq_some_iff.1 hB).1
 obtain ⟨W1, hW1⟩ : ∃ W1, w.alloc (.cells (sixes 3 0).toArray 3) = W1 := ⟨_, rfl⟩
 have hmk : (Instr.makeSlice 27 (.int .i64 3) (.int .i64 3)).run Tryz.prog w = .ok (.slice (some ⟨w.heap.size, 0, none⟩) 3 3) W1 := by
  have h := run_make_row' (P := Tryz.prog) 27 3 (.int .i64 0) 8 Tryz.underlying27 (by kernel_rfl) rfl .i64 .i64 3 (by omega) (by omega) w
  have e : madeCells #[Value.int .i64 0] 3 = (sixes 3 0).toArray := by kernel_rfl
  rw [← hW1, ← e]
  exact h
 have hb1 : Below w.heap.size w W1 := hW1 ▸ (Below.refl _ _).alloc (Nat.le_refl _) _
 have hN : W1.heap[w.heap.size]? = some (.cells (sixes 3 0).toArray 3) := hW1 ▸ heap_new _ _ rfl
 have hcp := copy_six W1 w.heap.size B 3 0 (Nat.min 1 3) 1 1 hN (Nat.zero_le _) rfl (fun j hj => by
  have : j = 0 := by have : Nat.min 1 3 ≤ 1 := Nat.min_le_left _ _; omega
  subst this
  rw [(blk (heap_below hb1 hB)).1 0]; rfl)
 have hp1 := put_cells W1 w.heap.size 0 (List.replicate (Nat.min 1 3) (.int .i64 6)) (sixes 3 0) 3 hN (by rw [sixes_len (Nat.zero_le _), List.length_replicate]; decide)
 rw [List.length_replicate, sixes_put (q := 3) (a := 0) (m := Nat.min 1 3) (by decide)] at hp1
 have hb2 : Below w.heap.size w (W1.setCells w.heap.size 0 (List.replicate (Nat.min 1 3) (.int .i64 6))) := hb1.trans (setCells_below (Nat.le_refl _))
 have HCP : Hid ((Builtin.copy_ #[27, 27] 3 #[.slice (some ⟨w.heap.size, 0, none⟩) 3 3, .slice (some ⟨B, 0, none⟩) 1 1]).run Tryz.prog W1 = .ok (.int .i64 ((Nat.min 1 3 : Nat) : Int)) (W1.setCells w.heap.size 0 (List.replicate (Nat.min 1 3) (.int .i64 6)))) := Lib.hid hcp
 obtain ⟨W2, hW2⟩ : ∃ W2, W1.setCells w.heap.size 0 (List.replicate (Nat.min 1 3) (.int .i64 6)) = W2 := ⟨_, rfl⟩
 rw [hW2] at HCP hp1 hb2
 have HP1 := Lib.hid hp1
 have HB2 := Lib.hid hb2
 clear hcp hp1 hb2 hW2 hN hb1 hW1 q0 f0 hB
 go_enter Tryz.func22, Tryz.ntmps22
 go_wp2_with (first
  | (go_at_call 40; refine (mul_3 _).mono ?_; rintro e w2 ⟨rfl, hw2⟩; obtain rfl := hw2.symm)
  | (refine wpList_copy_run _ rfl _ _ _ _ rfl _ _ rfl rfl _ _ HCP.out ?_))
 go_loopw [8] (fun n wr => ∃ a : Nat, Nat.min 1 3 ≤ a ∧ a ≤ 3 ∧ n = .int .i64 a ∧ Hid (wr.heap[w.heap.size]? = some (.cells (sixes 3 a).toArray 3)) ∧ Hid (Below w.heap.size w wr)) (fun n _ => 3 - (intOf n).toNat)
 case atStart => exact ⟨Nat.min 1 3, Nat.le_refl _, by decide, rfl, HP1, HB2⟩
 case round =>
  obtain ⟨a, ha1, ha2, rfl, HN, HBr⟩ := hrel
  by_cases hlt2 : a < 3
  ·have ha0 : Nat.min 1 3 ≤ a := ha1
   have hN := HN.out
   have hcp := copy_six wr.drew w.heap.size w.heap.size 3 a (Nat.min a (3 - a)) a 3 hN ha2 rfl (fun j hj => by
    have : Nat.min a (3 - a) ≤ a := Nat.min_le_left _ _
    rw [cell_of_heap (w := wr.drew) (B := w.heap.size) hN]
    simp only [List.getElem?_toArray]
    exact sixes_get (by omega))
   have hml : Nat.min a (3 - a) ≤ 3 - a := Nat.min_le_right _ _
   have hma : Nat.min a (3 - a) ≤ a := Nat.min_le_left _ _
   obtain ⟨m, hm⟩ : ∃ m, Nat.min a (3 - a) = m := ⟨_, rfl⟩
   have hm0 : 0 < m := by
    rw [← hm]
    have h1 : 0 < a := by first | omega | exact Nat.lt_of_lt_of_le (by decide) ha0
    exact Nat.lt_min.2 ⟨h1, by omega⟩
   rw [hm] at hcp hml hma
   have hp := put_cells wr.drew w.heap.size a (List.replicate m (.int .i64 6)) (sixes 3 a) 3 hN (by rw [sixes_len ha2, List.length_replicate]; omega)
   rw [List.length_replicate, sixes_put (by omega)] at hp
   have hb3 : Below w.heap.size w (wr.drew.setCells w.heap.size a (List.replicate m (.int .i64 6))) := HBr.out.drew.trans (setCells_below (Nat.le_refl _))
   have HC2 := Lib.hid hcp
   have HP := Lib.hid hp
   have HB3 := Lib.hid hb3
   have hne : ¬ 3 = a := by omega
   have hne2 : ¬ a = 3 := by omega
   have j0 : (0 : Int) ≤ (a : Int) := Int.natCast_nonneg _
   have j1 : (a : Int) ≤ 3 := by omega
   clear hcp hp hb3 hN hm ha0
   have HM0 := Lib.hid (And.intro hm0 (And.intro hml ha1))
   have hw9 : IntKind.i64.wrap ((a : Int) + (m : Int)) = ((a + m : Nat) : Int) := by rw [IntKind.wrap_i64]; omega
   go_wp2_with fail
   go_region_held3 (fun _ => True) (trivial) ((refine step_copy_run (by rfl) _ _ _ _ (by rfl) _ _ (by rfl) (by rfl) _ _ HC2.out ?_))
   go_wp2_with fail
   go_roundw
   case rel => exact ⟨a + m, by have := HM0.out; omega, by have := HM0.out; omega, by go_num, HP, HB3⟩
   case measure => have := HM0.out; simp only [intOf]; omega
  ·obtain rfl : a = 3 := by omega
   have HRow := Lib.hid (six_row (n := w.heap.size) (Nat.le_refl _) (by omega) HN.out)
   go_wp2_with fail
   go_ret
   exact ⟨_, rfl, HRow.out, HBr.out⟩
set_option maxRecDepth 100000 in
set_option maxHeartbeats 4000000 in
theorem rep_4 (B : Nat) (w : World) (hB : w.heap[B]? = some (.cells #[.int .i64 6] 3)) : Calls Tryz.prog 22 #[.slice (some ⟨B, 0, none⟩) 1 1, .int .i64 4] w fun e w' => ∃ v', e = .returned v' ∧ IntsR true w' (fun b => w.heap.size ≤ b) v' (List.replicate 4 6) ∧ Below w.heap.size w w' := by
 obtain ⟨q0, f0⟩ := blk hB
 have hlt : B < w.heap.size := (Array.getElem?_eq_some_iff.1 hB).1
 obtain ⟨W1, hW1⟩ : ∃ W1, w.alloc (.cells (sixes 4 0).toArray 3) = W1 := ⟨_, rfl⟩
 have hmk : (Instr.makeSlice 27 (.int .i64 4) (.int .i64 4)).run Tryz.prog w = .ok (.slice (some ⟨w.heap.size, 0, none⟩) 4 4) W1 := by
  have h := run_make_row' (P := Tryz.prog) 27 3 (.int .i64 0) 8 Tryz.underlying27 (by kernel_rfl) rfl .i64 .i64 4 (by omega) (by omega) w
  have e : madeCells #[Value.int .i64 0] 4 = (sixes 4 0).toArray := by kernel_rfl
  rw [← hW1, ← e]
  exact h
 have hb1 : Below w.heap.size w W1 := hW1 ▸ (Below.refl _ _).alloc (Nat.le_refl _) _
 have hN : W1.heap[w.heap.size]? = some (.cells (sixes 4 0).toArray 3) := hW1 ▸ heap_new _ _ rfl
 have hcp := copy_six W1 w.heap.size B 4 0 (Nat.min 1 4) 1 1 hN (Nat.zero_le _) rfl (fun j hj => by
  have : j = 0 := by have : Nat.min 1 4 ≤ 1 := Nat.min_le_left _ _; omega
  subst this
  rw [(blk (heap_below hb1 hB)).1 0]; rfl)
 have hp1 := put_cells W1 w.heap.size 0 (List.replicate (Nat.min 1 4) (.int .i64 6)) (sixes 4 0) 3 hN (by rw [sixes_len (Nat.zero_le _), List.length_replicate]; decide)
 rw [List.length_replicate, sixes_put (q := 4) (a := 0) (m := Nat.min 1 4) (by decide)] at hp1
 have hb2 : Below w.heap.size w (W1.setCells w.heap.size 0 (List.replicate (Nat.min 1 4) (.int .i64 6))) := hb1.trans (setCells_below (Nat.le_refl _))
 have HCP : Hid ((Builtin.copy_ #[27, 27] 3 #[.slice (some ⟨w.heap.size, 0, none⟩) 4 4, .slice (some ⟨B, 0, none⟩) 1 1]).run Tryz.prog W1 = .ok (.int .i64 ((Nat.min 1 4 : Nat) : Int)) (W1.setCells w.heap.size 0 (List.replicate (Nat.min 1 4) (.int .i64 6)))) := Lib.hid hcp
 obtain ⟨W2, hW2⟩ : ∃ W2, W1.setCells w.heap.size 0 (List.replicate (Nat.min 1 4) (.int .i64 6)) = W2 := ⟨_, rfl⟩
 rw [hW2] at HCP hp1 hb2
 have HP1 := Lib.hid hp1
 have HB2 := Lib.hid hb2
 clear hcp hp1 hb2 hW2 hN hb1 hW1 q0 f0 hB
 go_enter Tryz.func22, Tryz.ntmps22
 go_wp2_with (first
  | (go_at_call 40; refine (mul_4 _).mono ?_; rintro e w2 ⟨rfl, hw2⟩; obtain rfl := hw2.symm)
  | (refine wpList_copy_run _ rfl _ _ _ _ rfl _ _ rfl rfl _ _ HCP.out ?_))
 go_loopw [8] (fun n wr => ∃ a : Nat, Nat.min 1 4 ≤ a ∧ a ≤ 4 ∧ n = .int .i64 a ∧ Hid (wr.heap[w.heap.size]? = some (.cells (sixes 4 a).toArray 3)) ∧ Hid (Below w.heap.size w wr)) (fun n _ => 4 - (intOf n).toNat)
 case atStart => exact ⟨Nat.min 1 4, Nat.le_refl _, by decide, rfl, HP1, HB2⟩
 case round =>
  obtain ⟨a, ha1, ha2, rfl, HN, HBr⟩ := hrel
  by_cases hlt2 : a < 4
  ·have ha0 : Nat.min 1 4 ≤ a := ha1
   have hN := HN.out
   have hcp := copy_six wr.drew w.heap.size w.heap.size 4 a (Nat.min a (4 - a)) a 4 hN ha2 rfl (fun j hj => by
    have : Nat.min a (4 - a) ≤ a := Nat.min_le_left _ _
    rw [cell_of_heap (w := wr.drew) (B := w.heap.size) hN]
    simp only [List.getElem?_toArray]
    exact sixes_get (by omega))
   have hml : Nat.min a (4 - a) ≤ 4 - a := Nat.min_le_right _ _
   have hma : Nat.min a (4 - a) ≤ a := Nat.min_le_left _ _
   obtain ⟨m, hm⟩ : ∃ m, Nat.min a (4 - a) = m := ⟨_, rfl⟩
   have hm0 : 0 < m := by
    rw [← hm]
    have h1 : 0 < a := by first | omega | exact Nat.lt_of_lt_of_le (by decide) ha0
    exact Nat.lt_min.2 ⟨h1, by omega⟩
   rw [hm] at hcp hml hma
   have hp := put_cells wr.drew w.heap.size a (List.replicate m (.int .i64 6)) (sixes 4 a) 3 hN (by rw [sixes_len ha2, List.length_replicate]; omega)
   rw [List.length_replicate, sixes_put (by omega)] at hp
   have hb3 : Below w.heap.size w (wr.drew.setCells w.heap.size a (List.replicate m (.int .i64 6))) := HBr.out.drew.trans (setCells_below (Nat.le_refl _))
   have HC2 := Lib.hid hcp
   have HP := Lib.hid hp
   have HB3 := Lib.hid hb3
   have hne : ¬ 4 = a := by omega
   have hne2 : ¬ a = 4 := by omega
   have j0 : (0 : Int) ≤ (a : Int) := Int.natCast_nonneg _
   have j1 : (a : Int) ≤ 4 := by omega
   clear hcp hp hb3 hN hm ha0
   have HM0 := Lib.hid (And.intro hm0 (And.intro hml ha1))
   have hw9 : IntKind.i64.wrap ((a : Int) + (m : Int)) = ((a + m : Nat) : Int) := by rw [IntKind.wrap_i64]; omega
   go_wp2_with fail
   go_region_held3 (fun _ => True) (trivial) ((refine step_copy_run (by rfl) _ _ _ _ (by rfl) _ _ (by rfl) (by rfl) _ _ HC2.out ?_))
   go_wp2_with fail
   go_roundw
   case rel => exact ⟨a + m, by have := HM0.out; omega, by have := HM0.out; omega, by go_num, HP, HB3⟩
   case measure => have := HM0.out; simp only [intOf]; omega
  ·obtain rfl : a = 4 := by omega
   have HRow := Lib.hid (six_row (n := w.heap.size) (Nat.le_refl _) (by omega) HN.out)
   go_wp2_with fail
   go_ret
   exact ⟨_, rfl, HRow.out, HBr.out⟩
set_option maxRecDepth 100000 in
set_option maxHeartbeats 4000000 in
theorem rep_5 (B : Nat) (w : World) (hB : w.heap[B]? = some (.cells #[.int .i64 6] 3)) : Calls Tryz.prog 22 #[.slice (some ⟨B, 0, none⟩) 1 1, .int .i64 5] w fun e w' => ∃ v', e = .returned v' ∧ IntsR true w' (fun b => w.heap.size ≤ b) v' (List.replicate 5 6) ∧ Below w.heap.size w w' := by
 obtain ⟨q0, f0⟩ := blk hB
 have hlt : B < w.heap.size := (Array.getElem?_eq_some_iff.1 hB).1
 obtain ⟨W1, hW1⟩ : ∃ W1, w.alloc (.cells (sixes 5 0).toArray 3) = W1 := ⟨_, rfl⟩
 have hmk : (Instr.makeSlice 27 (.int .i64 5) (.int .i64 5)).run Tryz.prog w = .ok (.slice (some ⟨w.heap.size, 0, none⟩) 5 5) W1 := by
  have h := run_make_row' (P := Tryz.prog) 27 3 (.int .i64 0) 8 Tryz.underlying27 (by kernel_rfl) rfl .i64 .i64 5 (by omega) (by omega) w
  have e : madeCells #[Value.int .i64 0] 5 = (sixes 5 0).toArray := by kernel_rfl
  rw [← hW1, ← e]
  exact h
 have hb1 : Below w.heap.size w W1 := hW1 ▸ (Below.refl _ _).alloc (Nat.le_refl _) _
 have hN : W1.heap[w.heap.size]? = some (.cells (sixes 5 0).toArray 3) := hW1 ▸ heap_new _ _ rfl
 have hcp := copy_six W1 w.heap.size B 5 0 (Nat.min 1 5) 1 1 hN (Nat.zero_le _) rfl (fun j hj => by
  have : j = 0 := by have : Nat.min 1 5 ≤ 1 := Nat.min_le_left _ _; omega
  subst this
  rw [(blk (heap_below hb1 hB)).1 0]; rfl)
 have hp1 := put_cells W1 w.heap.size 0 (List.replicate (Nat.min 1 5) (.int .i64 6)) (sixes 5 0) 3 hN (by rw [sixes_len (Nat.zero_le _), List.length_replicate]; decide)
 rw [List.length_replicate, sixes_put (q := 5) (a := 0) (m := Nat.min 1 5) (by decide)] at hp1
 have hb2 : Below w.heap.size w (W1.setCells w.heap.size 0 (List.replicate (Nat.min 1 5) (.int .i64 6))) := hb1.trans (setCells_below (Nat.le_refl _))
 have HCP : Hid ((Builtin.copy_ #[27, 27] 3 #[.slice (some ⟨w.heap.size, 0, none⟩) 5 5, .slice (some ⟨B, 0, none⟩) 1 1]).run Tryz.prog W1 = .ok (.int .i64 ((Nat.min 1 5 : Nat) : Int)) (W1.setCells w.heap.size 0 (List.replicate (Nat.min 1 5) (.int .i64 6)))) := Lib.hid hcp
 obtain ⟨W2, hW2⟩ : ∃ W2, W1.setCells w.heap.size 0 (List.replicate (Nat.min 1 5) (.int .i64 6)) = W2 := ⟨_, rfl⟩
 rw [hW2] at HCP hp1 hb2
 have HP1 := Lib.hid hp1
 have HB2 := Lib.hid hb2
 clear hcp hp1 hb2 hW2 hN hb1 hW1 q0 f0 hB
 go_enter Tryz.func22, Tryz.ntmps22
 go_wp2_with (first
  | (go_at_call 40; refine (mul_5 _).mono ?_; rintro e w2 ⟨rfl, hw2⟩; obtain rfl := hw2.symm)
  | (refine wpList_copy_run _ rfl _ _ _ _ rfl _ _ rfl rfl _ _ HCP.out ?_))
 go_loopw [8] (fun n wr => ∃ a : Nat, Nat.min 1 5 ≤ a ∧ a ≤ 5 ∧ n = .int .i64 a ∧ Hid (wr.heap[w.heap.size]? = some (.cells (sixes 5 a).toArray 3)) ∧ Hid (Below w.heap.size w wr)) (fun n _ => 5 - (intOf n).toNat)
 case atStart => exact ⟨Nat.min 1 5, Nat.le_refl _, by decide, rfl, HP1, HB2⟩
 case round =>
  obtain ⟨a, ha1, ha2, rfl, HN, HBr⟩ := hrel
  by_cases hlt2 : a < 5
  ·have ha0 : Nat.min 1 5 ≤ a := ha1
   have hN := HN.out
   have hcp := copy_six wr.drew w.heap.size w.heap.size 5 a (Nat.min a (5 - a)) a 5 hN ha2 rfl (fun j hj => by
    have : Nat.min a (5 - a) ≤ a := Nat.min_le_left _ _
    rw [cell_of_heap (w := wr.drew) (B := w.heap.size) hN]
    simp only [List.getElem?_toArray]
    exact sixes_get (by omega))
   have hml : Nat.min a (5 - a) ≤ 5 - a := Nat.min_le_right _ _
   have hma : Nat.min a (5 - a) ≤ a := Nat.min_le_left _ _
   obtain ⟨m, hm⟩ : ∃ m, Nat.min a (5 - a) = m := ⟨_, rfl⟩
   have hm0 : 0 < m := by
    rw [← hm]
    have h1 : 0 < a := by first | omega | exact Nat.lt_of_lt_of_le (by decide) ha0
    exact Nat.lt_min.2 ⟨h1, by omega⟩
   rw [hm] at hcp hml hma
   have hp := put_cells wr.drew w.heap.size a (List.replicate m (.int .i64 6)) (sixes 5 a) 3 hN (by rw [sixes_len ha2, List.length_replicate]; omega)
   rw [List.length_replicate, sixes_put (by omega)] at hp
   have hb3 : Below w.heap.size w (wr.drew.setCells w.heap.size a (List.replicate m (.int .i64 6))) := HBr.out.drew.trans (setCells_below (Nat.le_refl _))
   have HC2 := Lib.hid hcp
   have HP := Lib.hid hp
   have HB3 := Lib.hid hb3
   have hne : ¬ 5 = a := by omega
   have hne2 : ¬ a = 5 := by omega
   have j0 : (0 : Int) ≤ (a : Int) := Int.natCast_nonneg _
   have j1 : (a : Int) ≤ 5 := by omega
   clear hcp hp hb3 hN hm ha0
   have HM0 := Lib.hid (And.intro hm0 (And.intro hml ha1))
   have hw9 : IntKind.i64.wrap ((a : Int) + (m : Int)) = ((a + m : Nat) : Int) := by rw [IntKind.wrap_i64]; omega
   go_wp2_with fail
   go_region_held3 (fun _ => True) (trivial) ((refine step_copy_run (by rfl) _ _ _ _ (by rfl) _ _ (by rfl) (by rfl) _ _ HC2.out ?_))
   go_wp2_with fail
   go_roundw
   case rel => exact ⟨a + m, by have := HM0.out; omega, by have := HM0.out; omega, by go_num, HP, HB3⟩
   case measure => have := HM0.out; simp only [intOf]; omega
  ·obtain rfl : a = 5 := by omega
   have HRow := Lib.hid (six_row (n := w.heap.size) (Nat.le_refl _) (by omega) HN.out)
   go_wp2_with fail
   go_ret
   exact ⟨_, rfl, HRow.out, HBr.out⟩
set_option maxRecDepth 100000 in
set_option maxHeartbeats 4000000 in
theorem rep_6 (B : Nat) (w : World) (hB : w.heap[B]? = some (.cells #[.int .i64 6] 3)) : Calls Tryz.prog 22 #[.slice (some ⟨B, 0, none⟩) 1 1, .int .i64 6] w fun e w' => ∃ v', e = .returned v' ∧ IntsR true w' (fun b => w.heap.size ≤ b) v' (List.replicate 6 6) ∧ Below w.heap.size w w' := by
 obtain ⟨q0, f0⟩ := blk hB
 have hlt : B < w.heap.size := (Array.getElem?_eq_some_iff.1 hB).1
 obtain ⟨W1, hW1⟩ : ∃ W1, w.alloc (.cells (sixes 6 0).toArray 3) = W1 := ⟨_, rfl⟩
 have hmk : (Instr.makeSlice 27 (.int .i64 6) (.int .i64 6)).run Tryz.prog w = .ok (.slice (some ⟨w.heap.size, 0, none⟩) 6 6) W1 := by
  have h := run_make_row' (P := Tryz.prog) 27 3 (.int .i64 0) 8 Tryz.underlying27 (by kernel_rfl) rfl .i64 .i64 6 (by omega) (by omega) w
  have e : madeCells #[Value.int .i64 0] 6 = (sixes 6 0).toArray := by kernel_rfl
  rw [← hW1, ← e]
  exact h
 have hb1 : Below w.heap.size w W1 := hW1 ▸ (Below.refl _ _).alloc (Nat.le_refl _) _
 have hN : W1.heap[w.heap.size]? = some (.cells (sixes 6 0).toArray 3) := hW1 ▸ heap_new _ _ rfl
 have hcp := copy_six W1 w.heap.size B 6 0 (Nat.min 1 6) 1 1 hN (Nat.zero_le _) rfl (fun j hj => by
  have : j = 0 := by have : Nat.min 1 6 ≤ 1 := Nat.min_le_left _ _; omega
  subst this
  rw [(blk (heap_below hb1 hB)).1 0]; rfl)
 have hp1 := put_cells W1 w.heap.size 0 (List.replicate (Nat.min 1 6) (.int .i64 6)) (sixes 6 0) 3 hN (by rw [sixes_len (Nat.zero_le _), List.length_replicate]; decide)
 rw [List.length_replicate, sixes_put (q := 6) (a := 0) (m := Nat.min 1 6) (by decide)] at hp1
 have hb2 : Below w.heap.size w (W1.setCells w.heap.size 0 (List.replicate (Nat.min 1 6) (.int .i64 6))) := hb1.trans (setCells_below (Nat.le_refl _))
 have HCP : Hid ((Builtin.copy_ #[27, 27] 3 #[.slice (some ⟨w.heap.size, 0, none⟩) 6 6, .slice (some ⟨B, 0, none⟩) 1 1]).run Tryz.prog W1 = .ok (.int .i64 ((Nat.min 1 6 : Nat) : Int)) (W1.setCells w.heap.size 0 (List.replicate (Nat.min 1 6) (.int .i64 6)))) := Lib.hid hcp
 obtain ⟨W2, hW2⟩ : ∃ W2, W1.setCells w.heap.size 0 (List.replicate (Nat.min 1 6) (.int .i64 6)) = W2 := ⟨_, rfl⟩
 rw [hW2] at HCP hp1 hb2
 have HP1 := Lib.hid hp1
 have HB2 := Lib.hid hb2
 clear hcp hp1 hb2 hW2 hN hb1 hW1 q0 f0 hB
 go_enter Tryz.func22, Tryz.ntmps22
 go_wp2_with (first
  | (go_at_call 40; refine (mul_6 _).mono ?_; rintro e w2 ⟨rfl, hw2⟩; obtain rfl := hw2.symm)
  | (refine wpList_copy_run _ rfl _ _ _ _ rfl _ _ rfl rfl _ _ HCP.out ?_))
 go_loopw [8] (fun n wr => ∃ a : Nat, Nat.min 1 6 ≤ a ∧ a ≤ 6 ∧ n = .int .i64 a ∧ Hid (wr.heap[w.heap.size]? = some (.cells (sixes 6 a).toArray 3)) ∧ Hid (Below w.heap.size w wr)) (fun n _ => 6 - (intOf n).toNat)
 case atStart => exact ⟨Nat.min 1 6, Nat.le_refl _, by decide, rfl, HP1, HB2⟩
 case round =>
  obtain ⟨a, ha1, ha2, rfl, HN, HBr⟩ := hrel
  by_cases hlt2 : a < 6
  ·have ha0 : Nat.min 1 6 ≤ a := ha1
   have hN := HN.out
   have hcp := copy_six wr.drew w.heap.size w.heap.size 6 a (Nat.min a (6 - a)) a 6 hN ha2 rfl (fun j hj => by
    have : Nat.min a (6 - a) ≤ a := Nat.min_le_left _ _
    rw [cell_of_heap (w := wr.drew) (B := w.heap.size) hN]
    simp only [List.getElem?_toArray]
    exact sixes_get (by omega))
   have hml : Nat.min a (6 - a) ≤ 6 - a := Nat.min_le_right _ _
   have hma : Nat.min a (6 - a) ≤ a := Nat.min_le_left _ _
   obtain ⟨m, hm⟩ : ∃ m, Nat.min a (6 - a) = m := ⟨_, rfl⟩
   have hm0 : 0 < m := by
    rw [← hm]
    have h1 : 0 < a := by first | omega | exact Nat.lt_of_lt_of_le (by decide) ha0
    exact Nat.lt_min.2 ⟨h1, by omega⟩
   rw [hm] at hcp hml hma
   have hp := put_cells wr.drew w.heap.size a (List.replicate m (.int .i64 6)) (sixes 6 a) 3 hN (by rw [sixes_len ha2, List.length_replicate]; omega)
   rw [List.length_replicate, sixes_put (by omega)] at hp
   have hb3 : Below w.heap.size w (wr.drew.setCells w.heap.size a (List.replicate m (.int .i64 6))) := HBr.out.drew.trans (setCells_below (Nat.le_refl _))
   have HC2 := Lib.hid hcp
   have HP := Lib.hid hp
   have HB3 := Lib.hid hb3
   have hne : ¬ 6 = a := by omega
   have hne2 : ¬ a = 6 := by omega
   have j0 : (0 : Int) ≤ (a : Int) := Int.natCast_nonneg _
   have j1 : (a : Int) ≤ 6 := by omega
   clear hcp hp hb3 hN hm ha0
   have HM0 := Lib.hid (And.intro hm0 (And.intro hml ha1))
   have hw9 : IntKind.i64.wrap ((a : Int) + (m : Int)) = ((a + m : Nat) : Int) := by rw [IntKind.wrap_i64]; omega
   go_wp2_with fail
   go_region_held3 (fun _ => True) (trivial) ((refine step_copy_run (by rfl) _ _ _ _ (by rfl) _ _ (by rfl) (by rfl) _ _ HC2.out ?_))
   go_wp2_with fail
   go_roundw
   case rel => exact ⟨a + m, by have := HM0.out; omega, by have := HM0.out; omega, by go_num, HP, HB3⟩
   case measure => have := HM0.out; simp only [intOf]; omega
  ·obtain rfl : a = 6 := by omega
   have HRow := Lib.hid (six_row (n := w.heap.size) (Nat.le_refl _) (by omega) HN.out)
   go_wp2_with fail
   go_ret
   exact ⟨_, rfl, HRow.out, HBr.out⟩
theorem rep_any (q : Nat) (hq : q ≤ 6) (B : Nat) (w : World) (hB : w.heap[B]? = some (.cells #[.int .i64 6] 3)) : Calls Tryz.prog 22 #[.slice (some ⟨B, 0, none⟩) 1 1, .int .i64 q] w fun e w' => ∃ v', e = .returned v' ∧ IntsR true w' (fun b => w.heap.size ≤ b) v' (List.replicate q 6) ∧ Below w.heap.size w w' := by
 match q, hq with
 | 0, _ => exact rep_0 B w hB
 | 1, _ => exact rep_1 B w hB
 | 2, _ => exact rep_2 B w hB
 | 3, _ => exact rep_3 B w hB
 | 4, _ => exact rep_4 B w hB
 | 5, _ => exact rep_5 B w hB
 | 6, _ => exact rep_6 B w hB
end Go.Proofs.YteognfhemmogpaaGreatDoor
namespace Go.Proofs.YteognfhemmogpaaGreatDoor
open Go.RowKit
open Go.Proofs.Qw
attribute [local go_sem ↓] Go.wp_at_zero Go.wp_at_succ
def tagW1 (k : Int) : Int := if k = 0 then 7 else 8
theorem oneV_tag (k : Int) : ∀ u ∈ [Value.int .i64 k], u.oneCell' = true := fun u hu => by simp at hu; subst hu; rfl
theorem src_tag (w : World) (r : Int) (c : Nat) {B : Nat} (hB : B = w.heap.size) : Src Tryz.prog 1 27 (.slice (some ⟨B, 0, none⟩) 1 c) 1 [.int .i64 r] (w.alloc (.cells #[.int .i64 r] 3)) := hB ▸ src_one rowInt w [.int .i64 r] rfl (oneV_tag r) c
theorem slice_any' {α : Type} {t : TypeId} {k : Nat} {R : Rd α} {own : Bool} {w : World} {S : Nat → Prop} {v : Value} {xs : List α} (h : SliceR t k R own w S v xs) : ∃ a n c, v = .slice a n c := by
 obtain ⟨a, c, e⟩ := h.slice
 exact ⟨a, _, c, e⟩
theorem way_eq (l : Lin) : wayL l = List.replicate (min l.quote.toNat 6) 6 ++ l.lists.map tagW1 := rfl
theorem way_most (l : Lin) : (wayL l).length ≤ 6 + l.lists.length := by rw [way_eq]; simp; omega
set_option maxRecDepth 100000 in
set_option maxHeartbeats 4000000 in
theorem way_any (l : Lin) (a : Value) (ca : Option Addr) (cn cc : Nat) (w w0 : World) (S : Nat → Prop) (ha : IntsR false w0 S a l.lists) (h0 : Below w0.heap.size w0 w) (hn : l.lists.length ≤ 1000000) :
  Calls Tryz.prog 10 #[linV l a (.slice ca cn cc)] w fun e w' => ∃ v', e = .returned v' ∧ IntsR true w' (fun b => w.heap.size ≤ b) v' (wayL l) ∧ Below w.heap.size w w' := by
 obtain ⟨la, lc, rfl, hlc, hlm, hlx⟩ := ints_shape ha
 have HX := Lib.hid hlx
 have HW0 := Lib.hid h0
 have HQ : Hid (min (max l.quote 0) 6 = ((min l.quote.toNat 6 : Nat) : Int)) := Lib.hid (by omega)
 have hq6 : min l.quote.toNat 6 ≤ 6 := Nat.min_le_right _ _
 obtain ⟨q, hqq⟩ : ∃ q, min l.quote.toNat 6 = q := ⟨_, rfl⟩
 have HWE := Lib.hid (way_eq l)
 rw [hqq] at HQ hq6 HWE
 obtain ⟨W1, hW1⟩ : ∃ W1, w.alloc (.cells #[.int .i64 l.quote, .slice la l.lists.length lc, .int .i64 l.kind, .slice ca cn cc] 31) = W1 := ⟨_, rfl⟩
 have hb1 : Below w.heap.size w W1 := hW1 ▸ (Below.refl _ _).alloc (Nat.le_refl _) _
 have hz1 : W1.heap.size = w.heap.size + 1 := by rw [← hW1]; simp
 have HB1 : Hid (W1.heap[w.heap.size]? = some (.cells #[.int .i64 l.quote, .slice la l.lists.length lc, .int .i64 l.kind, .slice ca cn cc] 31)) := Lib.hid (hW1 ▸ heap_new _ _ rfl)
 have HBL := Lib.hid hb1
 have HZ1 := Lib.hid hz1
 have HWW := Lib.hid hW1
 unfold maxLen at hlm
 clear ha h0 hlx hqq hb1 hz1 hW1
 unfold linV
 go_enter Tryz.func10, Tryz.ntmps10
 go_wp2_with (go_at_call 22; rw [HWW.out, HQ.out]; refine (rep_any q hq6 _ _ (heap_new _ _ HZ1.out.symm)).mono ?_; rintro e w3 ⟨v3, rfl, hv3, hb3⟩; obtain ⟨ra, rc, hre⟩ := hv3.slice; subst hre; have HV3 := Lib.hid hv3; have hb13 : Below W1.heap.size W1 w3 := below_from ((Below.refl _ _).alloc (Nat.le_refl _) _) hb3; have HB3 := Lib.hid hb13; obtain ⟨q3, g3⟩ := blk (heap_below hb13 HB1.out); clear hv3 hb3 hb13)
 go_loopw [3, 5, 6, 16] (fun o _ _ i wr => ∃ (k : Nat) (oa : Option Addr) (on oc : Nat), k ≤ l.lists.length ∧ i = .int .i64 k ∧ o = .slice oa on oc ∧ on = q + k ∧ Hid (IntsR true wr (fun b => W1.heap.size ≤ b) (.slice oa on oc) (List.replicate q 6 ++ (l.lists.take k).map tagW1)) ∧ Hid (Below W1.heap.size W1 wr)) (fun _ _ _ i _ => l.lists.length - (intOf i).toNat)
 case atStart =>
  refine ⟨0, ra, _, rc, Nat.zero_le _, rfl, rfl, by simp, Lib.hid ?_, HB3⟩
  have h := HV3.out
  rw [List.length_replicate] at h
  refine SliceR.stable (xs := List.replicate q 6 ++ (l.lists.take 0).map tagW1) (rdOf_stable _) ?_ (Keeps.refl _ _) (fun b h _ => h)
  rw [List.take_zero, List.map_nil, List.append_nil]
  refine h.stable (rdOf_stable _) (Keeps.refl _ _) (fun b h _ => ?_)
  have h : (W1.alloc (.cells #[.int .i64 6] 3)).heap.size ≤ b := h
  simp at h
  omega
 case round =>
  clear q3 g3
  obtain ⟨k, oa, on, oc, hk, rfl, rfl, hon, HO, HBr⟩ := hrel
  by_cases hlt : k < l.lists.length
  ·obtain ⟨x, hx, _⟩ := getOf l.lists k hlt
   obtain ⟨b, o, rfl, hz, c0⟩ := HX.out k x hx
   have hbz : b < W1.heap.size := Nat.lt_of_lt_of_le hz (Nat.le_trans HW0.out.size HBL.out.size)
   have c0 := (HBr.out.cell (p := ⟨b, o + k, none⟩) hbz).trans ((below_from HW0.out HBL.out |>.cell (p := ⟨b, o + k, none⟩) hz).trans c0)
   have HT := Lib.hid (by rw [take_some hx, List.map_append, ← List.append_assoc]; rfl : List.replicate q 6 ++ (l.lists.take (k + 1)).map tagW1 = (List.replicate q 6 ++ (l.lists.take k).map tagW1) ++ [tagW1 x])
   have hrl : (List.replicate q 6 ++ (l.lists.take k).map tagW1).length + 1 ≤ 100000000 := by simp; omega
   have HSX : Hid (∀ X, Below wr.heap.size wr X → IntsR true X (fun b => W1.heap.size ≤ b) (.slice oa on oc) (List.replicate q 6 ++ (l.lists.take k).map tagW1)) := Lib.hid fun X hX => HO.out.stable (rdOf_stable _) (.all hX) (fun _ h _ => h)
   have hrs := HBr.out.size
   have i0 : (0 : Int) ≤ (k : Int) := Int.natCast_nonneg _
   have i1 : (k : Int) < (l.lists.length : Int) := by omega
   generalize hrr : List.replicate q 6 ++ (l.lists.take k).map tagW1 = rr at *
   clear hx hrr
   by_cases hx0 : x = 0
   ·have hq0 : (x == 0) = true := by simp [hx0]
    have htg : tagW1 x = 7 := by unfold tagW1; rw [if_pos hx0]
    rw [htg] at HT
    clear htg hx0
    go_wp2_with (at_builtin; go_must (refine wpList_append_R _ rfl _ _ 27 27 rfl rowInt eltInt W1.heap.size (.slice oa on oc) _ (xs := rr) (ys := [7]) (news := [.int .i64 7]) rfl rfl (HSX.out _ (by go_grown)) (by simp; omega) (src_tag _ _ 1 (by simp)) (NewsR.one rfl rfl) hrl ?_); intro v' w8 hR8 hB8 _ _; rw [← HT.out] at hR8; obtain ⟨na, nn, nc, hne⟩ := slice_any' hR8; subst hne; have HR8 := Lib.hid hR8; have HB8 := Lib.hid hB8; clear hR8 hB8)
    go_roundw
    case rel =>
     refine ⟨k + 1, na, nn, nc, hlt, by go_num, rfl, ?_, HR8, Lib.hid (Below.trans (below_from HBr.out ?_) HB8.out)⟩
     ·have := HR8.out.slice
      obtain ⟨a', c', e⟩ := this
      cases e
      simp
      omega
     ·go_grown
    case measure => simp [intOf]; omega
   ·have hq0 : (x == 0) = false := by simp [hx0]
    have htg : tagW1 x = 8 := by unfold tagW1; rw [if_neg hx0]
    rw [htg] at HT
    clear htg hx0
    go_wp2_with (at_builtin; go_must (refine wpList_append_R _ rfl _ _ 27 27 rfl rowInt eltInt W1.heap.size (.slice oa on oc) _ (xs := rr) (ys := [8]) (news := [.int .i64 8]) rfl rfl (HSX.out _ (by go_grown)) (by simp; omega) (src_tag _ _ 1 (by simp)) (NewsR.one rfl rfl) hrl ?_); intro v' w8 hR8 hB8 _ _; rw [← HT.out] at hR8; obtain ⟨na, nn, nc, hne⟩ := slice_any' hR8; subst hne; have HR8 := Lib.hid hR8; have HB8 := Lib.hid hB8; clear hR8 hB8)
    go_roundw
    case rel =>
     refine ⟨k + 1, na, nn, nc, hlt, by go_num, rfl, ?_, HR8, Lib.hid (Below.trans (below_from HBr.out ?_) HB8.out)⟩
     ·have := HR8.out.slice
      obtain ⟨a', c', e⟩ := this
      cases e
      simp
      omega
     ·go_grown
    case measure => simp [intOf]; omega
  ·obtain rfl : k = l.lists.length := by omega
   rw [List.take_length, ← HWE.out] at HO
   go_wp2_with fail
   go_ret
   exact ⟨_, rfl, HO.out.stable (rdOf_stable _) (Keeps.refl _ _) (fun b h _ => Nat.le_trans HBL.out.size h), HBL.out.trans (HBr.out.mono HBL.out.size)⟩
end Go.Proofs.YteognfhemmogpaaGreatDoor
namespace Go.Proofs.Qw
open Go.RowKit
def wrN (w : Wr) : Nod := .mk w.1 w.2 [] []
theorem rep_snoc (k : Nat) (x : Int) : List.replicate (k + 1) x = List.replicate k x ++ [x] := List.replicate_succ'
end Go.Proofs.Qw
namespace Go.Proofs.YteognfhemmogpaaGreatDoor
open Go.RowKit
open Go.Proofs.Qw
attribute [local go_sem ↓] Go.wp_at_zero Go.wp_at_succ
set_option maxRecDepth 100000 in
set_option maxHeartbeats 4000000 in
theorem refWay_any (l : Lin) (a : Value) (ca : Option Addr) (cn cc : Nat) (w w0 : World) (S : Nat → Prop) (ha : IntsR false w0 S a l.lists) (h0 : Below w0.heap.size w0 w) (hn : l.lists.length ≤ 1000000) :
  Calls Tryz.prog 11 #[linV l a (.slice ca cn cc)] w fun e w' => ∃ v', e = .returned v' ∧ IntsR true w' (fun b => w.heap.size ≤ b) v' (wayL l) ∧ Below w.heap.size w w' := by
 obtain ⟨la, lc, rfl, hlc, hlm, hlx⟩ := ints_shape ha
 have HX := Lib.hid hlx
 have HW0 := Lib.hid h0
 obtain ⟨q, hqq⟩ : ∃ q, min l.quote.toNat 6 = q := ⟨_, rfl⟩
 have hq6 : q ≤ 6 := by omega
 have HQ : Hid (min l.quote.toNat 6 = q) := Lib.hid hqq
 have HWE := Lib.hid (way_eq l)
 rw [hqq] at HWE
 obtain ⟨W1, hW1⟩ : ∃ W1, w.alloc (.cells #[.int .i64 l.quote, .slice la l.lists.length lc, .int .i64 l.kind, .slice ca cn cc] 31) = W1 := ⟨_, rfl⟩
 have hb1 : Below w.heap.size w W1 := hW1 ▸ (Below.refl _ _).alloc (Nat.le_refl _) _
 have hz1 : w.heap.size < W1.heap.size := by rw [← hW1]; simp
 have HB1 : Hid (W1.heap[w.heap.size]? = some (.cells #[.int .i64 l.quote, .slice la l.lists.length lc, .int .i64 l.kind, .slice ca cn cc] 31)) := Lib.hid (hW1 ▸ heap_new _ _ rfl)
 have HBL := Lib.hid hb1
 have HZ1 := Lib.hid hz1
 unfold maxLen at hlm
 clear ha h0 hlx hqq hb1 hz1
 unfold linV
 go_enter Tryz.func11, Tryz.ntmps11
 go_wp2_with fail
 go_loopw [3, 4] (fun o i wr => ∃ (k : Nat) (oa : Option Addr) (on oc : Nat), k ≤ q ∧ i = .int .i64 k ∧ o = .slice oa on oc ∧ on = k ∧ Hid (IntsR true wr (fun b => W1.heap.size ≤ b) (.slice oa on oc) (List.replicate k 6)) ∧ Hid (Below W1.heap.size W1 wr)) (fun _ i _ => q - (intOf i).toNat)
 case atStart => exact ⟨0, none, 0, 0, Nat.zero_le _, rfl, rfl, rfl, Lib.hid (SliceR.nil _ _ _ _ _ _), Lib.hid (Below.refl _ _)⟩
 case round =>
  obtain ⟨k, oa, on, oc, hk, rfl, rfl, hon, HO, HBr⟩ := hrel
  obtain ⟨q3, g3⟩ := blk (heap_below HBr.out HB1.out)
  have hrs := HBr.out.size
  by_cases hlt : k < q
  ·have hd1 : decide ((k : Int) < l.quote) = true := decide_eq_true (by have := HQ.out; omega)
   have hd2 : decide ((k : Int) < 6) = true := decide_eq_true (by omega)
   have hd3 : decide (k < 6) = true := decide_eq_true (by omega)
   have HT := Lib.hid (rep_snoc k 6)
   have HSX : Hid (∀ X, Below wr.heap.size wr X → IntsR true X (fun b => W1.heap.size ≤ b) (.slice oa on oc) (List.replicate k 6)) := Lib.hid fun X hX => HO.out.stable (rdOf_stable _) (.all hX) (fun _ h _ => h)
   have hrl : (List.replicate k (6 : Int)).length + 1 ≤ 100000000 := by simp; omega
   generalize hrr : List.replicate k (6 : Int) = rr at *
   clear hrr
   go_wp2_with (at_builtin; go_must (refine wpList_append_R _ rfl _ _ 27 27 rfl rowInt eltInt W1.heap.size (.slice oa on oc) _ (xs := rr) (ys := [6]) (news := [.int .i64 6]) rfl rfl (HSX.out _ (by go_grown)) (by simp; omega) (src_tag _ _ 1 (by simp)) (NewsR.one rfl rfl) hrl ?_); intro v' w8 hR8 hB8 _ _; rw [← HT.out] at hR8; obtain ⟨na, nn, nc, hne⟩ := slice_any' hR8; subst hne; have HR8 := Lib.hid hR8; have HB8 := Lib.hid hB8; clear hR8 hB8)
   go_roundw
   case rel =>
    refine ⟨k + 1, na, nn, nc, hlt, by go_num, rfl, ?_, HR8, Lib.hid (Below.trans (below_from HBr.out ?_) HB8.out)⟩
    ·obtain ⟨a', c', e⟩ := HR8.out.slice
     cases e
     simp
    ·go_grown
   case measure => simp [intOf]; omega
  ·obtain rfl : k = q := by omega
   have hcs : decide ((k : Int) < l.quote) = false ∨ (decide ((k : Int) < l.quote) = true ∧ decide ((k : Int) < 6) = false) := by
    have := HQ.out
    by_cases h : (k : Int) < l.quote
    ·exact .inr ⟨decide_eq_true h, decide_eq_false (by omega)⟩
    ·exact .inl (decide_eq_false h)
   rcases hcs with hd1 | ⟨hd1, hd2⟩
   all_goals
    go_wp2_with fail
    go_loopw [3, 5] (fun o i wr => ∃ (j : Nat) (oa : Option Addr) (on oc : Nat), j ≤ l.lists.length ∧ i = .int .i64 j ∧ o = .slice oa on oc ∧ Hid (IntsR true wr (fun b => W1.heap.size ≤ b) (.slice oa on oc) (List.replicate k 6 ++ (l.lists.take j).map tagW1)) ∧ Hid (Below W1.heap.size W1 wr)) (fun _ i _ => l.lists.length - (intOf i).toNat)
    case atStart => exact ⟨0, oa, on, oc, Nat.zero_le _, rfl, rfl, Lib.hid (by rw [List.take_zero, List.map_nil, List.append_nil]; exact HO.out), HBr⟩
    case round =>
     clear q3 g3 HO HBr hrs
     obtain ⟨j, oa, on, oc, hj, rfl, rfl, HO, HBr⟩ := hrel
     obtain ⟨q3, g3⟩ := blk (heap_below HBr.out HB1.out)
     have hrs := HBr.out.size
     by_cases hlt : j < l.lists.length
     ·obtain ⟨x, hx, _⟩ := getOf l.lists j hlt
      obtain ⟨b, o, rfl, hz, c0⟩ := HX.out j x hx
      have hbz : b < W1.heap.size := Nat.lt_of_lt_of_le hz (Nat.le_trans HW0.out.size HBL.out.size)
      have c0 := (HBr.out.cell (p := ⟨b, o + j, none⟩) hbz).trans ((below_from HW0.out HBL.out |>.cell (p := ⟨b, o + j, none⟩) hz).trans c0)
      have HT := Lib.hid (by rw [take_some hx, List.map_append, ← List.append_assoc]; rfl : List.replicate k 6 ++ (l.lists.take (j + 1)).map tagW1 = (List.replicate k 6 ++ (l.lists.take j).map tagW1) ++ [tagW1 x])
      have hrl : (List.replicate k 6 ++ (l.lists.take j).map tagW1).length + 1 ≤ 100000000 := by simp; omega
      have HSX : Hid (∀ X, Below wr.heap.size wr X → IntsR true X (fun b => W1.heap.size ≤ b) (.slice oa on oc) (List.replicate k 6 ++ (l.lists.take j).map tagW1)) := Lib.hid fun X hX => HO.out.stable (rdOf_stable _) (.all hX) (fun _ h _ => h)
      have i0 : (0 : Int) ≤ (j : Int) := Int.natCast_nonneg _
      have i1 : (j : Int) < (l.lists.length : Int) := by omega
      generalize hrr : List.replicate k 6 ++ (l.lists.take j).map tagW1 = rr at *
      clear hx hrr
      by_cases hx0 : x = 0
      ·have hq0 : (x == 0) = true := by simp [hx0]
       have htg : tagW1 x = 7 := by unfold tagW1; rw [if_pos hx0]
       rw [htg] at HT
       clear htg hx0
       go_wp2_with (at_builtin; go_must (refine wpList_append_R _ rfl _ _ 27 27 rfl rowInt eltInt W1.heap.size (.slice oa on oc) _ (xs := rr) (ys := [7]) (news := [.int .i64 7]) rfl rfl (HSX.out _ (by go_grown)) (by simp; omega) (src_tag _ _ 1 (by simp)) (NewsR.one rfl rfl) hrl ?_); intro v' w8 hR8 hB8 _ _; rw [← HT.out] at hR8; obtain ⟨na, nn, nc, hne⟩ := slice_any' hR8; subst hne; have HR8 := Lib.hid hR8; have HB8 := Lib.hid hB8; clear hR8 hB8)
       go_roundw
       case rel => exact ⟨j + 1, na, nn, nc, hlt, by go_num, rfl, HR8, Lib.hid (Below.trans (below_from HBr.out (by go_grown)) HB8.out)⟩
       case measure => simp [intOf]; omega
      ·have hq0 : (x == 0) = false := by simp [hx0]
       have htg : tagW1 x = 8 := by unfold tagW1; rw [if_neg hx0]
       rw [htg] at HT
       clear htg hx0
       go_wp2_with (at_builtin; go_must (refine wpList_append_R _ rfl _ _ 27 27 rfl rowInt eltInt W1.heap.size (.slice oa on oc) _ (xs := rr) (ys := [8]) (news := [.int .i64 8]) rfl rfl (HSX.out _ (by go_grown)) (by simp; omega) (src_tag _ _ 1 (by simp)) (NewsR.one rfl rfl) hrl ?_); intro v' w8 hR8 hB8 _ _; rw [← HT.out] at hR8; obtain ⟨na, nn, nc, hne⟩ := slice_any' hR8; subst hne; have HR8 := Lib.hid hR8; have HB8 := Lib.hid hB8; clear hR8 hB8)
       go_roundw
       case rel => exact ⟨j + 1, na, nn, nc, hlt, by go_num, rfl, HR8, Lib.hid (Below.trans (below_from HBr.out (by go_grown)) HB8.out)⟩
       case measure => simp [intOf]; omega
     ·obtain rfl : j = l.lists.length := by omega
      rw [List.take_length, ← HWE.out] at HO
      go_wp2_with fail
      go_ret
      exact ⟨_, rfl, HO.out.stable (rdOf_stable _) (Keeps.refl _ _) (fun b h _ => Nat.le_trans HBL.out.size h), HBL.out.trans (HBr.out.mono HBL.out.size)⟩
end Go.Proofs.YteognfhemmogpaaGreatDoor
namespace Go.Proofs.Qw
open Go.RowKit Go.Proofs.YteognfhemmogpaaGreatDoor
theorem tbR (n i : Nat) : n &&& 2 ^ i = if (n / 2 ^ i) % 2 = 0 then 0 else 2 ^ i := by
 apply Nat.eq_of_testBit_eq
 intro k
 rw [Nat.testBit_and, Nat.testBit_two_pow]
 by_cases hk : i = k
 ·subst hk
  rw [Nat.testBit_eq_decide_div_mod_eq]
  by_cases h : n / 2 ^ i % 2 = 0
  ·rw [if_pos h]; simp [h]
  ·have : n / 2 ^ i % 2 = 1 := by omega
   rw [if_neg h]; simp [this]
 ·by_cases h : n / 2 ^ i % 2 = 0
  ·rw [if_pos h]; simp [hk]
  ·rw [if_neg h, Nat.testBit_two_pow]; simp [hk]
theorem and_bitR : ∀ (i : Nat), i ≤ 3 → ∀ (y : Int), bits .and .i64 y (2 ^ i) = if (y / 2 ^ i) % 2 = 0 then 0 else 2 ^ i := by
 intro i hi y
 have h : (BitVec.ofInt 64 y &&& BitVec.ofInt 64 (2 ^ i)).toNat = if (y / 2 ^ i) % 2 = 0 then 0 else 2 ^ i := by
  have e : (BitVec.ofInt 64 ((2 : Int) ^ i)).toNat = 2 ^ i := by
   match i, hi with
   | 0, _ => rfl
   | 1, _ => rfl
   | 2, _ => rfl
   | 3, _ => rfl
  rw [BitVec.toNat_and, e, BitVec.toNat_ofInt, tbR]
  have : ((y % 2 ^ 64).toNat / 2 ^ i) % 2 = 0 ↔ (y / 2 ^ i) % 2 = 0 := by
   match i, hi with
   | 0, _ => simp; omega
   | 1, _ => simp; omega
   | 2, _ => simp; omega
   | 3, _ => simp; omega
  by_cases hc : (y / 2 ^ i) % 2 = 0
  ·rw [if_pos hc]; exact if_pos (this.2 hc)
  ·rw [if_neg hc]; exact if_neg (fun e => hc (this.1 e))
 unfold bits
 simp only
 show IntKind.i64.wrap ((BitVec.ofInt 64 y &&& BitVec.ofInt 64 (2 ^ i)).toNat : Int) = _
 rw [h]
 match i, hi with
 | 0, _ => split <;> decide +kernel
 | 1, _ => split <;> decide +kernel
 | 2, _ => split <;> decide +kernel
 | 3, _ => split <;> decide +kernel
theorem shr_bit (j : Nat) (hj : j ≤ 3) (x : Int) : bits .and .i64 (x.fdiv (2 ^ j)) 1 = if bits .and .i64 x (2 ^ j) = 0 then 0 else 1 := by
 have h0 := and_bitR 0 (by omega) (x.fdiv (2 ^ j))
 have h1 := and_bitR j hj x
 have e : x.fdiv (2 ^ j) = x / 2 ^ j := by rw [Int.fdiv_eq_ediv_of_nonneg]; exact Int.pow_nonneg (by decide)
 have hp : ((2 : Int) ^ j) ≠ 0 := by
  match j, hj with
  | 0, _ => decide
  | 1, _ => decide
  | 2, _ => decide
  | 3, _ => decide
 rw [e] at h0 ⊢
 have h0 : bits .and .i64 (x / 2 ^ j) 1 = if (x / 2 ^ j / 1) % 2 = 0 then 0 else 1 := h0
 rw [h0, h1, Int.ediv_one]
 by_cases h : (x / 2 ^ j) % 2 = 0
 ·rw [if_pos h, if_pos h, if_pos rfl]
 ·rw [if_neg h, if_neg h, if_neg hp]
theorem filterMap_snoc {α β : Type} (f : α → Option β) (l : List α) (x : α) : (l ++ [x]).filterMap f = l.filterMap f ++ (f x).toList := by
 rw [List.filterMap_append, List.filterMap_cons, List.filterMap_nil]
 cases f x <;> rfl
def wrapsUp (j : Nat) (c : Cel) : List Wr := wrapsOf (rowK.take (j + 1)) c
theorem rowK_at : ∀ j, j < 4 → rowK[j + 1]? = some (lvBit j)
 | 0, _ => rfl
 | 1, _ => rfl
 | 2, _ => rfl
 | 3, _ => rfl
theorem wraps_up (j : Nat) (hj : j < 4) (c : Cel) : wrapsUp (j + 1) c = wrapsUp j c ++ (lvBit j c).toList := by
 unfold wrapsUp wrapsOf
 rw [take_some (rowK_at j hj), filterMap_snoc]
theorem wraps_none {j : Nat} (hj : j < 4) {c : Cel} (h : bits .and .i64 c.bits (2 ^ j) = 0) : wrapsUp (j + 1) c = wrapsUp j c := by
 rw [wraps_up j hj]
 unfold lvBit
 rw [if_pos h]
 exact List.append_nil _
theorem wraps_some {j : Nat} (hj : j < 4) {c : Cel} (h : bits .and .i64 c.bits (2 ^ j) ≠ 0) : wrapsUp (j + 1) c = wrapsUp j c ++ [(11 + (j : Int), [])] := by
 rw [wraps_up j hj]
 unfold lvBit
 rw [if_neg h]
 rfl
theorem wraps_all (c : Cel) : wrapsUp 4 c = wrapsOf rowK c := rfl
theorem wraps_href (c : Cel) : wrapsUp 0 c = if c.href = [] then [] else [(10, hrefA c.href)] := by
 unfold wrapsUp wrapsOf
 have e : rowK.take (0 + 1) = [] ++ [lvHref] := rfl
 rw [e, filterMap_snoc]
 unfold lvHref
 by_cases h : c.href = []
 ·rw [if_pos h, if_pos h]; rfl
 ·rw [if_neg h, if_neg h]; rfl
theorem wraps_len (j : Nat) (c : Cel) : (wrapsUp j c).length ≤ 5 := by
 unfold wrapsUp wrapsOf
 have h1 := List.length_filterMap_le (fun k : Cel → Option Wr => k c) (rowK.take (j + 1))
 have h2 : (rowK.take (j + 1)).length ≤ 5 := by rw [List.length_take]; exact Nat.min_le_right _ _
 omega
end Go.Proofs.Qw
namespace Go.Proofs.YteognfhemmogpaaGreatDoor
open Go.RowKit
open Go.Proofs.Qw
attribute [local go_sem ↓] Go.wp_at_zero Go.wp_at_succ
theorem oneV_el (t : Int) (a : Option Addr) (n c : Nat) : ∀ u ∈ [Value.int .i64 t, .slice a n c, .string ⟨#[]⟩, .slice none 0 0], u.oneCell' = true := fun u hu => by
 simp at hu
 rcases hu with rfl | rfl | rfl | rfl <;> rfl
theorem el_news {w : World} {S : Nat → Prop} (t : Int) : NewsR 4 (rdNod true 1) w S [.int .i64 t, .slice none 0 0, .string ⟨#[]⟩, .slice none 0 0] [wrN (t, [])] :=
 NewsR.one rfl ⟨_, _, rfl, SliceR.nil _ _ _ _ _ _, SliceR.nil _ _ _ _ _ _⟩
theorem slice_anyX {α : Type} {t : TypeId} {k : Nat} {R : Rd α} {w : World} {n : Nat} {v : Value} {xs : List α} (h : RwX t k R w n v xs) : ∃ a m c, v = .slice a m c := by
 obtain ⟨a, c, e⟩ := h.slice
 exact ⟨a, _, c, e⟩
theorem RwX.base {α : Type} {t : TypeId} {k : Nat} {R : Rd α} (hR : Stable R) {w : World} {n m : Nat} {v : Value} {xs : List α} (h : RwX t k R w n v xs) (hm : m ≤ n) : RwX t k R w m v xs := by
 obtain ⟨a, c, h1, h2, h3, h | ⟨b, o, rfl, hb, hz, hf, he⟩⟩ := h
 ·exact ⟨a, c, h1, h2, h3, .inl h⟩
 ·refine ⟨_, c, h1, h2, h3, .inr ⟨b, o, rfl, Nat.le_trans hm hb, hz, hf, fun i x hx => ?_⟩⟩
  obtain ⟨vs, g1, g2, g3⟩ := he i x hx
  exact ⟨vs, g1, hR.go _ _ _ _ _ _ g2 (Keeps.refl _ _) (fun _ h _ => ⟨Nat.le_trans hm h.1, h.2⟩), g3⟩
set_option maxRecDepth 100000 in
set_option maxHeartbeats 4000000 in
theorem boxes_any (l : Lin) (a : Value) (ca : Option Addr) (cn cc : Nat) (w w0 : World) (S : Nat → Prop) (ha : IntsR false w0 S a l.lists) (h0 : Below w0.heap.size w0 w) (hn : l.lists.length ≤ 1000000) :
  Calls Tryz.prog 50 #[linV l a (.slice ca cn cc)] w fun e w' => ∃ v', e = .returned v' ∧ RwX 35 4 (rdNod true 1) w' w.heap.size v' ((tagW (wayL l)).map wrN) ∧ Below w.heap.size w w' := by
 have HWy : Hid (∀ W, Below w.heap.size w W → Calls Tryz.prog 11 #[linV l a (.slice ca cn cc)] W fun e w' => ∃ va vc, e = .returned (.slice va (wayL l).length vc) ∧ IntsR false w' (fun _ => True) (.slice va (wayL l).length vc) (wayL l) ∧ Below W.heap.size W w') := Lib.hid fun W hW => (refWay_any l a ca cn cc W w0 S ha (below_from h0 hW) hn).mono fun _ _ ⟨v', h1, h2, h3⟩ => by
  obtain ⟨va, vc, rfl⟩ := h2.slice
  exact ⟨va, vc, h1, (h2.read fun _ _ h => h).stable (rdOf_stable _) (Keeps.refl _ _) (fun _ _ _ => trivial), h3⟩
 have hwl := way_most l
 obtain ⟨wy, hwy⟩ : ∃ wy, wayL l = wy := ⟨_, rfl⟩
 rw [hwy] at HWy hwl ⊢
 have hwl2 : wy.length ≤ 1000006 := by omega
 obtain ⟨la, lc, rfl⟩ := ha.slice
 obtain ⟨W1, hW1⟩ : ∃ W1, w.alloc (.cells #[.int .i64 l.quote, .slice la l.lists.length lc, .int .i64 l.kind, .slice ca cn cc] 31) = W1 := ⟨_, rfl⟩
 have hb1 : Below w.heap.size w W1 := hW1 ▸ (Below.refl _ _).alloc (Nat.le_refl _) _
 have hB1 : W1.heap[w.heap.size]? = some (.cells #[.int .i64 l.quote, .slice la l.lists.length lc, .int .i64 l.kind, .slice ca cn cc] 31) := hW1 ▸ heap_new _ _ rfl
 obtain ⟨p1, f1⟩ := blk hB1
 have HBL := Lib.hid hb1
 clear ha h0 hb1 hB1 hwl hwy
 unfold linV at *
 go_enter Tryz.func50, Tryz.ntmps50
 go_wp2_with (go_at_call 11; refine (HWy.out _ HBL.out).mono ?_; rintro e w2 ⟨va, vc, rfl, hv2, hb2⟩; obtain ⟨va', vc', hve, _, hvm, hvx⟩ := ints_shape hv2; cases hve; have HX := Lib.hid hvx; have HB2 := Lib.hid hb2; clear hv2 hb2 hvx)
 unfold maxLen at hvm
 go_loopw [4, 5] (fun o i wr => ∃ (k : Nat) (oa : Option Addr) (on oc : Nat), k ≤ wy.length ∧ i = .int .i64 k ∧ o = .slice oa on oc ∧ Hid (RwX 35 4 (rdNod true 1) wr w2.heap.size (.slice oa on oc) ((tagW (wy.take k)).map wrN)) ∧ Hid (Below w2.heap.size w2 wr)) (fun _ i _ => wy.length - (intOf i).toNat)
 case atStart => exact ⟨0, none, 0, 0, Nat.zero_le _, rfl, rfl, Lib.hid (RwX.nil _ _ _ _ _), Lib.hid (Below.refl _ _)⟩
 case round =>
  obtain ⟨k, oa, on, oc, hk, rfl, rfl, HO, HBt⟩ := hrel
  have hrs := HBt.out.size
  by_cases hlt : k < wy.length
  ·obtain ⟨x, hx, _⟩ := getOf wy k hlt
   obtain ⟨b, o, rfl, hz, c0⟩ := HX.out k x hx
   have c0 := (HBt.out.cell (p := ⟨b, o + k, none⟩) hz).trans c0
   have HT := Lib.hid (by unfold tagW; rw [take_some hx, List.map_append, List.map_append]; rfl : (tagW (wy.take (k + 1))).map wrN = (tagW (wy.take k)).map wrN ++ [wrN (x, [])])
   have hrl : ((tagW (wy.take k)).map wrN).length + 1 ≤ 100000000 := by unfold tagW; simp; omega
   have HSX : Hid (∀ X, Below wr.heap.size wr X → RwX 35 4 (rdNod true 1) X w2.heap.size (.slice oa on oc) ((tagW (wy.take k)).map wrN)) := Lib.hid fun X hX => HO.out.below (rdNod_stable _ _) (.all hX)
   have i0 : (0 : Int) ≤ (k : Int) := Int.natCast_nonneg _
   have i1 : (k : Int) < (wy.length : Int) := by omega
   generalize hrr : (tagW (wy.take k)).map wrN = rr at *
   clear hx hrr
   go_wp2_with (at_builtin; go_must (refine wpList_append_X _ rfl _ _ 33 33 rfl rowNod (eltNod 1) w2.heap.size (.slice oa on oc) _ (xs := rr) (ys := [wrN (x, [])]) (news := [.int .i64 x, .slice none 0 0, .string ⟨#[]⟩, .slice none 0 0]) rfl rfl (HSX.out _ (by go_grown)) (by simp; omega) (src_node (heap_new _ _ (by simp)) (oneV_el _ _ _ _) 1) (el_news _) hrl ?_); intro v' w8 hR8 hB8 _ _; rw [← HT.out] at hR8; obtain ⟨na, nn, nc, hne⟩ := slice_anyX hR8; subst hne; have HR8 := Lib.hid hR8; have HB8 := Lib.hid hB8; clear hR8 hB8)
   go_roundw
   case rel => exact ⟨k + 1, na, nn, nc, hlt, by go_num, rfl, HR8, Lib.hid (Below.trans (below_from HBt.out (by go_grown)) HB8.out)⟩
   case measure => simp [intOf]; omega
  ·obtain rfl : k = wy.length := by omega
   rw [List.take_length] at HO
   go_wp2_with fail
   go_ret
   exact ⟨_, rfl, RwX.base (rdNod_stable _ _) HO.out (Nat.le_trans HBL.out.size HB2.out.size), HBL.out.trans ((below_from HB2.out HBt.out).mono HBL.out.size)⟩
theorem a_news {w w' : World} {S : Nat → Prop} (hr : List UInt8) (hS : S w.heap.size) (hb : Below (w.alloc (.cells #[.string ⟨#[104, 114, 101, 102]⟩, .string ⟨hr.toArray⟩] 90)).heap.size (w.alloc (.cells #[.string ⟨#[104, 114, 101, 102]⟩, .string ⟨hr.toArray⟩] 90)) w') : NewsR 4 (rdNod true 1) w' S [.int .i64 10, .slice (some ⟨w.heap.size, 0, none⟩) 1 1, .string ⟨#[]⟩, .slice none 0 0] [wrN (10, hrefA hr)] := by
 have h : AttsR true (w.alloc (.cells #[.string ⟨#[104, 114, 101, 102]⟩, .string ⟨hr.toArray⟩] 90)) S (.slice (some ⟨w.heap.size, 0, none⟩) 1 1) (hrefA hr) := SliceR.one_new w [.string ⟨#[104, 114, 101, 102]⟩, .string ⟨hr.toArray⟩] rfl rfl hS
 exact NewsR.one rfl ⟨_, _, rfl, h.below (rdOf_stable _) hb, SliceR.nil _ _ _ _ _ _⟩
set_option maxRecDepth 100000 in
set_option maxHeartbeats 4000000 in
theorem wraps_any (c : Cel) (w : World) :
  Calls Tryz.prog 57 #[.agg #[.int .i32 c.r, .int .i64 c.bits, .string ⟨c.href.toArray⟩]] w fun e w' => ∃ v', e = .returned v' ∧ RwX 35 4 (rdNod true 1) w' w.heap.size v' ((wrapsOf rowK c).map wrN) ∧ Below w.heap.size w w' := by
 obtain ⟨W1, hW1⟩ : ∃ W1, w.alloc (.cells #[.int .i32 c.r, .int .i64 c.bits, .string ⟨c.href.toArray⟩] 51) = W1 := ⟨_, rfl⟩
 have hb1 : Below w.heap.size w W1 := hW1 ▸ (Below.refl _ _).alloc (Nat.le_refl _) _
 have HB1 : Hid (W1.heap[w.heap.size]? = some (.cells #[.int .i32 c.r, .int .i64 c.bits, .string ⟨c.href.toArray⟩] 51)) := Lib.hid (hW1 ▸ heap_new _ _ rfl)
 obtain ⟨p1, f1⟩ := blk HB1.out
 have HBL := Lib.hid hb1
 clear hb1
 have hwh := wraps_href c
 by_cases hr : c.href = []
 ·have hq1 : (c.href == []) = true := by simp [hr]
  have hq2 : c.href.isEmpty = true := by simp [hr]
  rw [if_pos hr] at hwh
  have H0 : Hid (RwX 35 4 (rdNod true 1) W1 W1.heap.size (.slice none 0 0) ((wrapsUp 0 c).map wrN)) := Lib.hid (by rw [hwh]; exact RwX.nil _ _ _ _ _)
  have HBA : Hid (Below W1.heap.size W1 W1) := Lib.hid (Below.refl _ _)
  clear hwh hr
  go_enter Tryz.func57, Tryz.ntmps57
  go_wp2_with fail
  go_loopw [3, 4] (fun o i wr => ∃ (k : Nat) (oa : Option Addr) (on oc : Nat), k ≤ 4 ∧ i = .int .i64 k ∧ o = .slice oa on oc ∧ Hid (RwX 35 4 (rdNod true 1) wr W1.heap.size (.slice oa on oc) ((wrapsUp k c).map wrN)) ∧ Hid (Below W1.heap.size W1 wr)) (fun _ i _ => 4 - (intOf i).toNat)
  case atStart => exact ⟨0, _, _, _, Nat.zero_le _, rfl, rfl, H0, HBA⟩
  case round =>
   clear HBA H0
   obtain ⟨k, oa, on, oc, hk, rfl, rfl, HO, HBr⟩ := hrel
   have hrs := HBr.out.size
   obtain ⟨p2, f2⟩ := blk (heap_below HBr.out HB1.out)
   by_cases hlt : k < 4
   ·have hd1 : decide ((k : Int) < 4) = true := decide_eq_true (by omega)
    have hd2 : decide (k < 4) = true := decide_eq_true hlt
    have hbt := shr_bit k (by omega) c.bits
    rw [show c.bits.fdiv (2 ^ k) = c.bits / 2 ^ k from Int.fdiv_eq_ediv_of_nonneg _ (Int.pow_nonneg (by decide))] at hbt
    have hwk : IntKind.i64.wrap (11 + (k : Int)) = 11 + (k : Int) := by rw [IntKind.wrap_i64]; omega
    have hwl := wraps_len k c
    have hrl : ((wrapsUp k c).map wrN).length + 1 ≤ 100000000 := by rw [List.length_map]; omega
    have HSX : Hid (∀ X, Below wr.heap.size wr X → RwX 35 4 (rdNod true 1) X W1.heap.size (.slice oa on oc) ((wrapsUp k c).map wrN)) := Lib.hid fun X hX => HO.out.below (rdNod_stable _ _) (.all hX)
    by_cases h0 : bits .and .i64 c.bits (2 ^ k) = 0
    ·have HT := Lib.hid (wraps_none hlt h0)
     rw [if_pos h0] at hbt
     have hq : (bits .and .i64 (c.bits / 2 ^ k) 1 == 1) = false := by rw [hbt]; rfl
     clear hbt h0 hwl HSX
     go_wp2_with fail
     go_roundw
     case rel => exact ⟨k + 1, oa, on, oc, hlt, by go_num, rfl, Lib.hid (by rw [HT.out]; exact HO.out), HBr⟩
     case measure => simp [intOf]; omega
    ·have HT : Hid ((wrapsUp (k + 1) c).map wrN = (wrapsUp k c).map wrN ++ [wrN (11 + (k : Int), [])]) := Lib.hid (by rw [wraps_some hlt h0, List.map_append]; rfl)
     rw [if_neg h0] at hbt
     have hq : (bits .and .i64 (c.bits / 2 ^ k) 1 == 1) = true := by rw [hbt]; rfl
     clear hbt h0 hwl
     generalize hrr : (wrapsUp k c).map wrN = rr at *
     clear hrr
     go_wp2_with (at_builtin; go_must (refine wpList_append_X _ rfl _ _ 33 33 rfl rowNod (eltNod 1) W1.heap.size (.slice oa on oc) _ (xs := rr) (ys := [wrN (11 + (k : Int), [])]) (news := [.int .i64 (11 + (k : Int)), .slice none 0 0, .string ⟨#[]⟩, .slice none 0 0]) rfl rfl (HSX.out _ (by go_grown)) (by simp; omega) (src_node (heap_new _ _ (by simp)) (oneV_el _ _ _ _) 1) (el_news _) hrl ?_); intro v' w8 hR8 hB8 _ _; rw [← HT.out] at hR8; obtain ⟨na, nn, nc, hne⟩ := slice_anyX hR8; subst hne; have HR8 := Lib.hid hR8; have HB8 := Lib.hid hB8; clear hR8 hB8)
     go_roundw
     case rel => exact ⟨k + 1, na, nn, nc, hlt, by go_num, rfl, HR8, Lib.hid (Below.trans (below_from HBr.out (by go_grown)) HB8.out)⟩
     case measure => simp [intOf]; omega
   ·obtain rfl : k = 4 := by omega
    rw [wraps_all] at HO
    go_wp2_with fail
    go_ret
    exact ⟨_, rfl, RwX.base (rdNod_stable _ _) HO.out HBL.out.size, HBL.out.trans (HBr.out.mono HBL.out.size)⟩
 ·have hq1 : (c.href == []) = false := by simp [hr]
  have hq2 : c.href.isEmpty = false := by cases hc : c.href; exact absurd hc hr; rfl
  rw [if_neg hr] at hwh
  clear hr
  go_enter Tryz.func57, Tryz.ntmps57
  go_wp2_with (at_builtin; go_must (refine wpList_append_X _ rfl _ _ 33 33 rfl rowNod (eltNod 1) W1.heap.size (.slice none 0 0) _ (xs := []) (ys := [wrN (10, hrefA c.href)]) (news := [.int .i64 10, .slice (some ⟨W1.heap.size, 0, none⟩) 1 1, .string ⟨#[]⟩, .slice none 0 0]) rfl rfl (RwX.nil _ _ _ _ _) (by simp; omega) (src_node (heap_new _ _ (by simp)) (oneV_el _ _ _ _) 1) (a_news c.href ⟨Nat.le_refl _, by simp [rowBlk]⟩ ((Below.refl _ _).alloc (Nat.le_refl _) _)) (by simp) ?_); intro v' w8 hR8 hB8 _ _; obtain ⟨na, nn, nc, hne⟩ := slice_anyX hR8; subst hne; have HR8 := Lib.hid hR8; have HB8 := Lib.hid hB8; clear hR8 hB8)
  have H0 : Hid (RwX 35 4 (rdNod true 1) w8 W1.heap.size (.slice na nn nc) ((wrapsUp 0 c).map wrN)) := Lib.hid (by rw [hwh]; exact HR8.out)
  have HBA : Hid (Below W1.heap.size W1 w8) := Lib.hid ((((Below.refl _ _).alloc (Nat.le_refl _) _).alloc (by simp) _).trans HB8.out)
  clear hwh HR8 HB8
  go_loopw [3, 4] (fun o i wr => ∃ (k : Nat) (oa : Option Addr) (on oc : Nat), k ≤ 4 ∧ i = .int .i64 k ∧ o = .slice oa on oc ∧ Hid (RwX 35 4 (rdNod true 1) wr W1.heap.size (.slice oa on oc) ((wrapsUp k c).map wrN)) ∧ Hid (Below W1.heap.size W1 wr)) (fun _ i _ => 4 - (intOf i).toNat)
  case atStart => exact ⟨0, _, _, _, Nat.zero_le _, rfl, rfl, H0, HBA⟩
  case round =>
   clear HBA H0
   obtain ⟨k, oa, on, oc, hk, rfl, rfl, HO, HBr⟩ := hrel
   have hrs := HBr.out.size
   obtain ⟨p2, f2⟩ := blk (heap_below HBr.out HB1.out)
   by_cases hlt : k < 4
   ·have hd1 : decide ((k : Int) < 4) = true := decide_eq_true (by omega)
    have hd2 : decide (k < 4) = true := decide_eq_true hlt
    have hbt := shr_bit k (by omega) c.bits
    rw [show c.bits.fdiv (2 ^ k) = c.bits / 2 ^ k from Int.fdiv_eq_ediv_of_nonneg _ (Int.pow_nonneg (by decide))] at hbt
    have hwk : IntKind.i64.wrap (11 + (k : Int)) = 11 + (k : Int) := by rw [IntKind.wrap_i64]; omega
    have hwl := wraps_len k c
    have hrl : ((wrapsUp k c).map wrN).length + 1 ≤ 100000000 := by rw [List.length_map]; omega
    have HSX : Hid (∀ X, Below wr.heap.size wr X → RwX 35 4 (rdNod true 1) X W1.heap.size (.slice oa on oc) ((wrapsUp k c).map wrN)) := Lib.hid fun X hX => HO.out.below (rdNod_stable _ _) (.all hX)
    by_cases h0 : bits .and .i64 c.bits (2 ^ k) = 0
    ·have HT := Lib.hid (wraps_none hlt h0)
     rw [if_pos h0] at hbt
     have hq : (bits .and .i64 (c.bits / 2 ^ k) 1 == 1) = false := by rw [hbt]; rfl
     clear hbt h0 hwl HSX
     go_wp2_with fail
     go_roundw
     case rel => exact ⟨k + 1, oa, on, oc, hlt, by go_num, rfl, Lib.hid (by rw [HT.out]; exact HO.out), HBr⟩
     case measure => simp [intOf]; omega
    ·have HT : Hid ((wrapsUp (k + 1) c).map wrN = (wrapsUp k c).map wrN ++ [wrN (11 + (k : Int), [])]) := Lib.hid (by rw [wraps_some hlt h0, List.map_append]; rfl)
     rw [if_neg h0] at hbt
     have hq : (bits .and .i64 (c.bits / 2 ^ k) 1 == 1) = true := by rw [hbt]; rfl
     clear hbt h0 hwl
     generalize hrr : (wrapsUp k c).map wrN = rr at *
     clear hrr
     go_wp2_with (at_builtin; go_must (refine wpList_append_X _ rfl _ _ 33 33 rfl rowNod (eltNod 1) W1.heap.size (.slice oa on oc) _ (xs := rr) (ys := [wrN (11 + (k : Int), [])]) (news := [.int .i64 (11 + (k : Int)), .slice none 0 0, .string ⟨#[]⟩, .slice none 0 0]) rfl rfl (HSX.out _ (by go_grown)) (by simp; omega) (src_node (heap_new _ _ (by simp)) (oneV_el _ _ _ _) 1) (el_news _) hrl ?_); intro v' w8 hR8 hB8 _ _; rw [← HT.out] at hR8; obtain ⟨na, nn, nc, hne⟩ := slice_anyX hR8; subst hne; have HR8 := Lib.hid hR8; have HB8 := Lib.hid hB8; clear hR8 hB8)
     go_roundw
     case rel => exact ⟨k + 1, na, nn, nc, hlt, by go_num, rfl, HR8, Lib.hid (Below.trans (below_from HBr.out (by go_grown)) HB8.out)⟩
     case measure => simp [intOf]; omega
   ·obtain rfl : k = 4 := by omega
    rw [wraps_all] at HO
    go_wp2_with fail
    go_ret
    exact ⟨_, rfl, RwX.base (rdNod_stable _ _) HO.out HBL.out.size, HBL.out.trans (HBr.out.mono HBL.out.size)⟩
end Go.Proofs.YteognfhemmogpaaGreatDoor
namespace Go.Proofs.YteognfhemmogpaaGreatDoor
open Go.RowKit
open Go.Proofs.Qw
theorem guardAtt : Tryz.prog.eqGuardType Tryz.prog.depth 90 = false := by kernel_rfl
theorem att_cases (x y : Att) : ((x.name == y.name) = true ∧ (x.value == y.value) = true ∧ x = y) ∨ ((x.name == y.name) = false ∧ x ≠ y) ∨ ((x.name == y.name) = true ∧ (x.value == y.value) = false ∧ x ≠ y) := by
 by_cases e1 : x.name = y.name
 ·by_cases e2 : x.value = y.value
  ·exact .inl ⟨by simp [e1], by simp [e2], by obtain ⟨a, b⟩ := x; obtain ⟨c, d⟩ := y; simp_all⟩
  ·exact .inr (.inr ⟨by simp [e1], by simp [e2], by rintro rfl; exact e2 rfl⟩)
 ·exact .inr (.inl ⟨by simp [e1], by rintro rfl; exact e1 rfl⟩)
set_option maxRecDepth 100000 in
set_option maxHeartbeats 4000000 in
theorem refSameA_any (v1 v2 : Value) (d1 d2 : List Att) (w : World) (S1 S2 : Nat → Prop) (h1 : AttsR false w S1 v1 d1) (h2 : AttsR false w S2 v2 d2) :
  Calls Tryz.prog 27 #[v1, v2] w fun e w' => e = .returned (.bool (decide (d1 = d2))) ∧ Below w.heap.size w w' := by
 obtain ⟨a, c, rfl, hc, hm, hx⟩ := atts_shape h1
 obtain ⟨a2, c2, rfl, hc2, hm2, hx2⟩ := atts_shape h2
 have HX := Lib.hid hx
 have HX2 := Lib.hid hx2
 clear hx hx2 h1 h2
 unfold maxLen at hm hm2
 go_enter Tryz.func27, Tryz.ntmps27
 by_cases hl : d1.length = d2.length
 ·have HL := Lib.hid hl
  have hlb : ((d1.length : Int) != d2.length) = false := by simp [hl]
  clear hl
  go_wp2_with fail
  go_loopw [5] (fun i wr => ∃ k : Nat, k ≤ d1.length ∧ i = .int .i64 k ∧ Hid (d1.take k = d2.take k) ∧ Below w.heap.size w wr) (fun i _ => d1.length - (intOf i).toNat)
  case atStart => exact ⟨0, Nat.zero_le _, rfl, Lib.hid rfl, Below.refl _ _⟩
  case round =>
   obtain ⟨k, hk, rfl, HE, hb⟩ := hrel
   by_cases hlt : k < d1.length
   ·obtain ⟨x, hx, _⟩ := getOf d1 k hlt
    obtain ⟨y, hy, _⟩ := getOf d2 k (by have := HL.out; omega)
    obtain ⟨b, o, rfl, hz, c0, c1⟩ := HX.out k x hx; obtain ⟨b2, o2, rfl, hz2, k0, k1⟩ := HX2.out k y hy; have c0 := (hb.cell (p := ⟨b, o + k * 2, none⟩) hz).trans c0; have c1 := (hb.cell (p := ⟨b, o + k * 2 + 1, none⟩) hz).trans c1; have k0 := (hb.cell (p := ⟨b2, o2 + k * 2, none⟩) hz2).trans k0; have k1 := (hb.cell (p := ⟨b2, o2 + k * 2 + 1, none⟩) hz2).trans k1
    have i0 : (0 : Int) ≤ (k : Int) := Int.natCast_nonneg _
    have i1 : (k : Int) < (d1.length : Int) := by omega
    have i2 : (k : Int) < (d2.length : Int) := by have := HL.out; omega
    have HXY := Lib.hid (And.intro hx hy)
    clear hx hy
    have hg := guardAtt
    have hcs := att_cases x y
    rcases hcs with ⟨hq, hq2, hxy⟩ | ⟨hq, hxy⟩ | ⟨hq, hq2, hxy⟩
    ·have HE2 := Lib.hid (take_both HXY.out.1 HXY.out.2 HE.out hxy)
     clear hxy
     go_wp2_with fail
     go_quiet (fail)
     all_goals go_wp2_with fail
     go_roundw
     case rel => exact ⟨k + 1, hlt, by go_num, HE2, drewN_below hb⟩
     case measure => simp [intOf]; omega
    all_goals
     have HN := Lib.hid (ne_at HXY.out.1 HXY.out.2 hxy)
     clear hxy
     go_wp2_with fail
     go_quiet (fail)
     all_goals go_wp2_with fail
     go_ret
     exact ⟨by rw [decide_eq_false HN.out]; rfl, drewN_below hb⟩
   ·obtain rfl : k = d1.length := by omega
    have HD : Hid (d1 = d2) := Lib.hid (by have h1 := HE.out; have h2 := HL.out; rw [List.take_length, h2, List.take_length] at h1; exact h1)
    have HB := Lib.hid hb
    clear hb
    go_wp2_with fail
    go_ret
    exact ⟨by rw [decide_eq_true HD.out]; rfl, HB.out⟩
 ·have hlb : ((d1.length : Int) != d2.length) = true := by simp; omega
  have HL : Hid (d1 ≠ d2) := Lib.hid fun e => hl (e ▸ rfl)
  clear hl
  go_wp2_with fail
  go_ret
  exact ⟨by rw [decide_eq_false HL.out]; rfl, Below.refl _ _⟩
end Go.Proofs.YteognfhemmogpaaGreatDoor
namespace Go.Proofs.YteognfhemmogpaaGreatDoor
open Go.RowKit
open Go.Proofs.Qw
attribute [local go_sem ↓] Go.wp_at_zero Go.wp_at_succ
def RSameAt (h : Nat) : Prop := ∀ (n1 n2 : Nod) (a1 k1 a2 k2 : Value) (w : World) (S1 S2 : Nat → Prop), AttsR false w S1 a1 n1.attrs → NodsR false h w S1 k1 n1.kids → AttsR false w S2 a2 n2.attrs → NodsR false h w S2 k2 n2.kids →
  Calls Tryz.prog 14 #[nodV n1 a1 k1, nodV n2 a2 k2] w fun e w' => e = .returned (.bool (decide (n1 = n2))) ∧ Below w.heap.size w w'
theorem ne_tag {a b : Nod} (h : a.tag ≠ b.tag) : a ≠ b := fun e => h (by rw [e])
theorem ne_text {a b : Nod} (h : a.text ≠ b.text) : a ≠ b := fun e => h (by rw [e])
theorem ne_attrs {a b : Nod} (h : a.attrs ≠ b.attrs) : a ≠ b := fun e => h (by rw [e])
theorem ne_kids {a b : Nod} (h : a.kids ≠ b.kids) : a ≠ b := fun e => h (by rw [e])
theorem nod_eq {a b : Nod} (h1 : a.tag = b.tag) (h2 : a.attrs = b.attrs) (h3 : a.text = b.text) (h4 : a.kids = b.kids) : a = b := by
 rw [← Nod.eta a, ← Nod.eta b, h1, h2, h3, h4]
set_option maxRecDepth 100000 in
set_option maxHeartbeats 4000000 in
theorem rsame_step (h : Nat) (ih : ∀ h', h = h' + 1 → RSameAt h') : RSameAt h := by
 intro n1 n2 a1 k1 a2 k2 w S1 S2 hA1 hK1 hA2 hK2
 have HC1 : Hid (∀ W, Below w.heap.size w W → Calls Tryz.prog 27 #[a1, a2] W fun e w' => e = .returned (.bool (decide (n1.attrs = n2.attrs))) ∧ Below W.heap.size W w') := Lib.hid fun W h => refSameA_any _ _ _ _ W S1 S2 (hA1.below (rdOf_stable _) h) (hA2.below (rdOf_stable _) h)
 obtain ⟨la, lc, rfl⟩ := hA1.slice
 obtain ⟨la2, lc2, rfl⟩ := hA2.slice
 obtain ⟨ca, cc, rfl, hc, hm, hx⟩ := nods_shape hK1
 obtain ⟨ca2, cc2, rfl, hc2, hm2, hx2⟩ := nods_shape hK2
 have HX := Lib.hid hx
 have HX2 := Lib.hid hx2
 have HI := Lib.hid ih
 clear hA1 hK1 hA2 hK2 hx hx2 ih
 unfold maxLen at hm hm2
 obtain ⟨W1, hW1, hB, hz, hB1, hB2⟩ := two_nodes w (.int .i64 n1.tag) (.slice la n1.attrs.length lc) (.string ⟨n1.text.toArray⟩) (.slice ca n1.kids.length cc) (.int .i64 n2.tag) (.slice la2 n2.attrs.length lc2) (.string ⟨n2.text.toArray⟩) (.slice ca2 n2.kids.length cc2)
 have HZ := Lib.hid hz
 have HB1 := Lib.hid hB1
 have HB2 := Lib.hid hB2
 clear hz
 obtain ⟨p1, f1⟩ := blk hB1
 obtain ⟨p2, f2⟩ := blk hB2
 clear hB1 hB2
 have hBs := hB.size
 go_enter Tryz.func14, Tryz.ntmps14
 by_cases et : n1.tag = n2.tag
 ·have bt : (n1.tag != n2.tag) = false := by simp [et]
  have ET := Lib.hid et
  clear et
  by_cases ex : n1.text = n2.text
  ·have bx : (n1.text == n2.text) = true := by simp [ex]
   have EX := Lib.hid ex
   clear ex
   by_cases ea : n1.attrs = n2.attrs
   ·rw [decide_eq_true ea] at HC1
    have EA := Lib.hid ea
    clear ea
    by_cases el : n1.kids.length = n2.kids.length
    ·have bl : ((n1.kids.length : Int) != n2.kids.length) = false := by simp [el]
     have EL := Lib.hid el
     clear el
     go_wp2_with (go_at_call 27; refine (HC1.out _ hB).mono ?_; rintro e w2 ⟨rfl, hb2⟩; have hbb := below_from hB hb2; obtain ⟨p3, f3⟩ := blk (heap_below hb2 HB1.out); obtain ⟨p4, f4⟩ := blk (heap_below hb2 HB2.out))
     go_loopw [5] (fun i wr => ∃ k : Nat, k ≤ n1.kids.length ∧ i = .int .i64 k ∧ Hid (n1.kids.take k = n2.kids.take k) ∧ Below W1.heap.size W1 wr) (fun i _ => n1.kids.length - (intOf i).toNat)
     case atStart => exact ⟨0, Nat.zero_le _, rfl, Lib.hid rfl, hb2⟩
     case round =>
      clear p3 f3 p4 f4 hbb hb2
      obtain ⟨k, hk, rfl, HE, hb⟩ := hrel
      have hwz := hb.size
      have z0 := HZ.out
      obtain ⟨p3, f3⟩ := blk (heap_below hb HB1.out)
      obtain ⟨p4, f4⟩ := blk (heap_below hb HB2.out)
      by_cases hlt : k < n1.kids.length
      ·obtain ⟨x, hx, _⟩ := getOf n1.kids k hlt
       obtain ⟨y, hy, _⟩ := getOf n2.kids k (by have := EL.out; omega)
       obtain ⟨b, o, la', lc', ka', kc', h', rfl, rfl, hA⟩ := HX.out k x hx
       obtain ⟨b2, o2, la2', lc2', ka2', kc2', h'', e'', rfl, hA2⟩ := HX2.out k y hy
       obtain rfl : h' = h'' := by omega
       clear e''
       have hbw : Below w.heap.size w wr := hB.trans (hb.mono hBs)
       have HW : Hid (∀ W, Below wr.heap.size wr W → Calls Tryz.prog 14 #[nodV x (.slice la' x.attrs.length lc') (.slice ka' x.kids.length kc'), nodV y (.slice la2' y.attrs.length lc2') (.slice ka2' y.kids.length kc2')] W fun e w' => e = .returned (.bool (decide (x = y))) ∧ Below W.heap.size W w') := Lib.hid fun W hW => by
        have h3 := hA.below (below_from hbw hW)
        have h4 := hA2.below (below_from hbw hW)
        exact HI.out h' rfl x y _ _ _ _ W S1 S2 h3.attrsR h3.kidsR h4.attrsR h4.kidsR
       obtain ⟨hz, c0, c1, c2, c3, _, _⟩ := hA.below hbw
       obtain ⟨hz2, d0, d1, d2, d3, _, _⟩ := hA2.below hbw
       have i0 : (0 : Int) ≤ (k : Int) := Int.natCast_nonneg _
       have i1 : (k : Int) < (n1.kids.length : Int) := by omega
       have i2 : (k : Int) < (n2.kids.length : Int) := by have := EL.out; omega
       have HXY := Lib.hid (And.intro hx hy)
       have hbs := hb.size
       have hzA : w.heap.size < wr.heap.size := by omega
       have hzB : w.heap.size + 1 < wr.heap.size := by omega
       clear hx hy hA hA2
       have hwr : Below wr.heap.size wr wr := Below.refl _ _
       rcases Classical.em (x = y) with hxy | hxy
       ·have HE2 := Lib.hid (take_both HXY.out.1 HXY.out.2 HE.out hxy)
        have hd : decide (x = y) = true := decide_eq_true hxy
        rw [hd] at HW
        clear hxy hd
        go_wp2_with fail
        (go_region_held3 (fun w' => w'.cell? ⟨w.heap.size, 3, none⟩ = some (.slice (some ⟨b, o, none⟩) n1.kids.length cc) ∧ w'.cell? ⟨w.heap.size + 1, 3, none⟩ = some (.slice (some ⟨b2, o2, none⟩) n2.kids.length cc2) ∧ w'.cell? ⟨b, o + k * 4, none⟩ = some (.int .i64 x.tag) ∧ w'.cell? ⟨b, o + k * 4 + 1, none⟩ = some (.slice la' x.attrs.length lc') ∧ w'.cell? ⟨b, o + k * 4 + 2, none⟩ = some (.string ⟨x.text.toArray⟩) ∧ w'.cell? ⟨b, o + k * 4 + 3, none⟩ = some (.slice ka' x.kids.length kc') ∧ w'.cell? ⟨b2, o2 + k * 4, none⟩ = some (.int .i64 y.tag) ∧ w'.cell? ⟨b2, o2 + k * 4 + 1, none⟩ = some (.slice la2' y.attrs.length lc2') ∧ w'.cell? ⟨b2, o2 + k * 4 + 2, none⟩ = some (.string ⟨y.text.toArray⟩) ∧ w'.cell? ⟨b2, o2 + k * 4 + 3, none⟩ = some (.slice ka2' y.kids.length kc2')) ((first | go_keep | skip)) ((go_at_call 14; refine (HW.out _ hwr.drew).mono ?_; rintro e w1 ⟨rfl, hb1⟩; obtain ⟨q1, q2⟩ := bcell hb1; have hk1 := q1 b (o + k * 4) hz; have hk2 := q1 b (o + k * 4 + 1) hz; have hk3 := q1 b (o + k * 4 + 2) hz; have hk4 := q1 b (o + k * 4 + 3) hz; have hk5 := q1 b2 (o2 + k * 4) hz2; have hk6 := q1 b2 (o2 + k * 4 + 1) hz2; have hk7 := q1 b2 (o2 + k * 4 + 2) hz2; have hk8 := q1 b2 (o2 + k * 4 + 3) hz2; have hk9 := q1 w.heap.size 3 hzA; have hkA := q1 (w.heap.size + 1) 3 hzB))); go_wp2_with fail
        go_roundw
        case rel => exact ⟨k + 1, hlt, by go_num, HE2, (hb.drew.trans (hb1.mono hbs))⟩
        case measure => simp [intOf]; omega
       ·have HN := Lib.hid (ne_kids (a := n1) (b := n2) (ne_at HXY.out.1 HXY.out.2 hxy))
        have hd : decide (x = y) = false := decide_eq_false hxy
        rw [hd] at HW
        clear hxy hd
        go_wp2_with fail
        (go_region_held3 (fun w' => w'.cell? ⟨w.heap.size, 3, none⟩ = some (.slice (some ⟨b, o, none⟩) n1.kids.length cc) ∧ w'.cell? ⟨w.heap.size + 1, 3, none⟩ = some (.slice (some ⟨b2, o2, none⟩) n2.kids.length cc2) ∧ w'.cell? ⟨b, o + k * 4, none⟩ = some (.int .i64 x.tag) ∧ w'.cell? ⟨b, o + k * 4 + 1, none⟩ = some (.slice la' x.attrs.length lc') ∧ w'.cell? ⟨b, o + k * 4 + 2, none⟩ = some (.string ⟨x.text.toArray⟩) ∧ w'.cell? ⟨b, o + k * 4 + 3, none⟩ = some (.slice ka' x.kids.length kc') ∧ w'.cell? ⟨b2, o2 + k * 4, none⟩ = some (.int .i64 y.tag) ∧ w'.cell? ⟨b2, o2 + k * 4 + 1, none⟩ = some (.slice la2' y.attrs.length lc2') ∧ w'.cell? ⟨b2, o2 + k * 4 + 2, none⟩ = some (.string ⟨y.text.toArray⟩) ∧ w'.cell? ⟨b2, o2 + k * 4 + 3, none⟩ = some (.slice ka2' y.kids.length kc2')) ((first | go_keep | skip)) ((go_at_call 14; refine (HW.out _ hwr.drew).mono ?_; rintro e w1 ⟨rfl, hb1⟩; obtain ⟨q1, q2⟩ := bcell hb1; have hk1 := q1 b (o + k * 4) hz; have hk2 := q1 b (o + k * 4 + 1) hz; have hk3 := q1 b (o + k * 4 + 2) hz; have hk4 := q1 b (o + k * 4 + 3) hz; have hk5 := q1 b2 (o2 + k * 4) hz2; have hk6 := q1 b2 (o2 + k * 4 + 1) hz2; have hk7 := q1 b2 (o2 + k * 4 + 2) hz2; have hk8 := q1 b2 (o2 + k * 4 + 3) hz2; have hk9 := q1 w.heap.size 3 hzA; have hkA := q1 (w.heap.size + 1) 3 hzB))); go_wp2_with fail
        go_ret
        exact ⟨by rw [decide_eq_false HN.out]; rfl, hB.trans ((hb.drew.trans (hb1.mono hbs)).mono hBs)⟩
      ·obtain rfl : k = n1.kids.length := by omega
       have HD : Hid (n1 = n2) := Lib.hid (nod_eq ET.out EA.out EX.out (by have h1 := HE.out; have h2 := EL.out; rw [List.take_length, h2, List.take_length] at h1; exact h1))
       have HB := Lib.hid (hB.trans (hb.mono hBs))
       clear hb
       go_wp2_with fail
       go_ret
       exact ⟨by rw [decide_eq_true HD.out]; rfl, HB.out⟩
    ·have bl : ((n1.kids.length : Int) != n2.kids.length) = true := by simp; omega
     have HN := Lib.hid (ne_kids (a := n1) (b := n2) (fun e => el (by rw [e])))
     clear el
     go_wp2_with (go_at_call 27; refine (HC1.out _ hB).mono ?_; rintro e w2 ⟨rfl, hb2⟩; have hbb := below_from hB hb2; obtain ⟨p3, f3⟩ := blk (heap_below hb2 HB1.out); obtain ⟨p4, f4⟩ := blk (heap_below hb2 HB2.out))
     go_ret
     exact ⟨by rw [decide_eq_false HN.out]; rfl, hbb⟩
   ·rw [decide_eq_false ea] at HC1
    have HN := Lib.hid (ne_attrs ea)
    clear ea
    go_wp2_with (go_at_call 27; refine (HC1.out _ hB).mono ?_; rintro e w2 ⟨rfl, hb2⟩; have hbb := below_from hB hb2; obtain ⟨p3, f3⟩ := blk (heap_below hb2 HB1.out); obtain ⟨p4, f4⟩ := blk (heap_below hb2 HB2.out))
    go_ret
    exact ⟨by rw [decide_eq_false HN.out]; rfl, hbb⟩
  ·have bx : (n1.text == n2.text) = false := by simp [ex]
   have HN := Lib.hid (ne_text ex)
   clear ex
   go_wp2_with fail
   go_ret
   exact ⟨by rw [decide_eq_false HN.out]; rfl, hB⟩
 ·have bt : (n1.tag != n2.tag) = true := by simp [et]
  have HN := Lib.hid (ne_tag et)
  clear et
  go_wp2_with fail
  go_ret
  exact ⟨by rw [decide_eq_false HN.out]; rfl, hB⟩
theorem rsame_all : ∀ h, RSameAt h
 | 0 => rsame_step 0 (fun _ e => by cases e)
 | h + 1 => rsame_step (h + 1) (fun h' e => by cases e; exact rsame_all h)
end Go.Proofs.YteognfhemmogpaaGreatDoor
namespace Go.Proofs.Qw
open Go.RowKit
def sharedN : List Nod → List Nod → Nat
 | a :: xs, b :: ys => if a = b then sharedN xs ys + 1 else 0
 | _, _ => 0
theorem wrN_inj {a b : Wr} (h : wrN a = wrN b) : a = b := by
 unfold wrN at h
 injection h with h1 h2
 exact Prod.ext h1 h2
theorem sharedN_map : ∀ (a b : List Wr), sharedN (a.map wrN) (b.map wrN) = sharedW a b
 | [], b => by cases b <;> rfl
 | x :: a, [] => rfl
 | x :: a, y :: b => by
  rw [List.map_cons, List.map_cons, sharedN, sharedW, sharedN_map a b]
  by_cases h : x = y
  ·rw [if_pos h, if_pos (by rw [h])]
  ·rw [if_neg h, if_neg (fun e => h (wrN_inj e))]
theorem sharedN_end {a b : List Nod} {k : Nat} (h : a.length ≤ k ∨ b.length ≤ k) : sharedN (a.drop k) (b.drop k) = 0 := by
 rcases h with h | h
 ·rw [List.drop_eq_nil_of_le h]; cases b.drop k <;> rfl
 ·rw [List.drop_eq_nil_of_le h]; cases a.drop k <;> rfl
theorem sharedN_at {a b : List Nod} {k : Nat} {x y : Nod} (hx : a[k]? = some x) (hy : b[k]? = some y) : sharedN (a.drop k) (b.drop k) = if x = y then sharedN (a.drop (k + 1)) (b.drop (k + 1)) + 1 else 0 := by
 obtain ⟨h1, rfl⟩ := List.getElem?_eq_some_iff.1 hx
 obtain ⟨h2, rfl⟩ := List.getElem?_eq_some_iff.1 hy
 rw [List.drop_eq_getElem_cons h1, List.drop_eq_getElem_cons h2, sharedN]
end Go.Proofs.Qw
namespace Go.Proofs.YteognfhemmogpaaGreatDoor
open Go.RowKit
open Go.Proofs.Qw
attribute [local go_sem ↓] Go.wp_at_zero Go.wp_at_succ
set_option maxRecDepth 100000 in
set_option maxHeartbeats 4000000 in
theorem shared_any (h : Nat) (v1 v2 : Value) (A B : List Nod) (w : World) (S1 S2 : Nat → Prop) (h1 : NodsR false h w S1 v1 A) (h2 : NodsR false h w S2 v2 B) (hl : A.length ≤ 1000000) :
  Calls Tryz.prog 51 #[v1, v2] w fun e w' => e = .returned (.int .i64 (sharedN A B)) ∧ Below w.heap.size w w' := by
 obtain ⟨a1, c1, rfl, hc1, hm1, hx1⟩ := nods_shape h1
 obtain ⟨a2, c2, rfl, hc2, hm2, hx2⟩ := nods_shape h2
 have HX1 := Lib.hid hx1
 have HX2 := Lib.hid hx2
 clear h1 h2 hx1 hx2
 unfold maxLen at hm1 hm2
 go_enter Tryz.func51, Tryz.ntmps51
 go_wp2_with fail
 go_loopw [5] (fun i wr => ∃ k : Nat, k ≤ A.length ∧ i = .int .i64 k ∧ Hid (sharedN A B = k + sharedN (A.drop k) (B.drop k)) ∧ Hid (Below w.heap.size w wr)) (fun i _ => A.length - (intOf i).toNat)
 case atStart => exact ⟨0, Nat.zero_le _, rfl, Lib.hid (by rw [List.drop_zero, List.drop_zero, Nat.zero_add]), Lib.hid (Below.refl _ _)⟩
 case round =>
  obtain ⟨k, hk, rfl, HE, HBr⟩ := hrel
  by_cases hlt1 : k < A.length
  ·have hd1 : decide ((k : Int) < (A.length : Int)) = true := decide_eq_true (by omega)
   have hn1 : decide (k < A.length) = true := decide_eq_true (by omega)
   by_cases hlt2 : k < B.length
   ·have hd2 : decide ((k : Int) < (B.length : Int)) = true := decide_eq_true (by omega)
    have hn2 : decide (k < B.length) = true := decide_eq_true (by omega)
    obtain ⟨x, hx, _⟩ := getOf A k hlt1
    obtain ⟨y, hy, _⟩ := getOf B k hlt2
    obtain ⟨b, o, la', lc', ka', kc', h', rfl, rfl, hA⟩ := HX1.out k x hx
    obtain ⟨b2, o2, la2', lc2', ka2', kc2', h'', e'', rfl, hA2⟩ := HX2.out k y hy
    obtain rfl : h' = h'' := by omega
    clear e''
    have HW : Hid (∀ W, Below wr.heap.size wr W → Calls Tryz.prog 14 #[nodV x (.slice la' x.attrs.length lc') (.slice ka' x.kids.length kc'), nodV y (.slice la2' y.attrs.length lc2') (.slice ka2' y.kids.length kc2')] W fun e w' => e = .returned (.bool (decide (x = y))) ∧ Below W.heap.size W w') := Lib.hid fun W hW => by
     have h3 := hA.below (below_from HBr.out hW)
     have h4 := hA2.below (below_from HBr.out hW)
     exact rsame_all h' x y _ _ _ _ W S1 S2 h3.attrsR h3.kidsR h4.attrsR h4.kidsR
    have HAt := Lib.hid (sharedN_at hx hy)
    obtain ⟨hz, c0, c1', c2', c3, _, _⟩ := hA.below HBr.out
    obtain ⟨hz2, d0, d1, d2, d3, _, _⟩ := hA2.below HBr.out
    have i0 : (0 : Int) ≤ (k : Int) := Int.natCast_nonneg _
    have i1 : (k : Int) < (A.length : Int) := by omega
    have i2 : (k : Int) < (B.length : Int) := by omega
    clear hx hy hA hA2
    have hwr : Below wr.heap.size wr wr := Below.refl _ _
    obtain ⟨z, hz0⟩ : ∃ z, decide (x = y) = z := ⟨_, rfl⟩
    rw [hz0] at HW
    cases z
    ·have HT : Hid (sharedN A B = k) := Lib.hid (by rw [HE.out, HAt.out, if_neg (of_decide_eq_false hz0)]; rfl)
     clear hz0 HAt HE
     go_wp2_with fail
     go_region_held3 (fun w' => w'.cell? ⟨b, o + k * 4, none⟩ = some (.int .i64 x.tag) ∧ w'.cell? ⟨b, o + k * 4 + 1, none⟩ = some (.slice la' x.attrs.length lc') ∧ w'.cell? ⟨b, o + k * 4 + 2, none⟩ = some (.string ⟨x.text.toArray⟩) ∧ w'.cell? ⟨b, o + k * 4 + 3, none⟩ = some (.slice ka' x.kids.length kc') ∧ w'.cell? ⟨b2, o2 + k * 4, none⟩ = some (.int .i64 y.tag) ∧ w'.cell? ⟨b2, o2 + k * 4 + 1, none⟩ = some (.slice la2' y.attrs.length lc2') ∧ w'.cell? ⟨b2, o2 + k * 4 + 2, none⟩ = some (.string ⟨y.text.toArray⟩) ∧ w'.cell? ⟨b2, o2 + k * 4 + 3, none⟩ = some (.slice ka2' y.kids.length kc2')) ((first | go_keep | skip)) ((go_at_call 14; refine (HW.out _ hwr.drew).mono ?_; rintro e w1 ⟨rfl, hb1⟩; obtain ⟨q1, q2⟩ := bcell hb1; have hk1 := q1 b (o + k * 4) hz; have hk2 := q1 b (o + k * 4 + 1) hz; have hk3 := q1 b (o + k * 4 + 2) hz; have hk4 := q1 b (o + k * 4 + 3) hz; have hk5 := q1 b2 (o2 + k * 4) hz2; have hk6 := q1 b2 (o2 + k * 4 + 1) hz2; have hk7 := q1 b2 (o2 + k * 4 + 2) hz2; have hk8 := q1 b2 (o2 + k * 4 + 3) hz2))
     go_wp2_with fail
     all_goals
      go_ret
      exact ⟨by rw [HT.out]; rfl, (by first | exact below_from HBr.out hb1 | exact below_from HBr.out (hb1.drew) | exact below_from HBr.out ((Below.refl _ _).drew.trans (hb1.mono (Nat.le_refl _))))⟩
    ·have HT : Hid (sharedN A B = (k + 1 : Nat) + sharedN (A.drop (k + 1)) (B.drop (k + 1))) := Lib.hid (by rw [HE.out, HAt.out, if_pos (of_decide_eq_true hz0)]; omega)
     clear hz0 HAt HE
     go_wp2_with fail
     go_region_held3 (fun w' => w'.cell? ⟨b, o + k * 4, none⟩ = some (.int .i64 x.tag) ∧ w'.cell? ⟨b, o + k * 4 + 1, none⟩ = some (.slice la' x.attrs.length lc') ∧ w'.cell? ⟨b, o + k * 4 + 2, none⟩ = some (.string ⟨x.text.toArray⟩) ∧ w'.cell? ⟨b, o + k * 4 + 3, none⟩ = some (.slice ka' x.kids.length kc') ∧ w'.cell? ⟨b2, o2 + k * 4, none⟩ = some (.int .i64 y.tag) ∧ w'.cell? ⟨b2, o2 + k * 4 + 1, none⟩ = some (.slice la2' y.attrs.length lc2') ∧ w'.cell? ⟨b2, o2 + k * 4 + 2, none⟩ = some (.string ⟨y.text.toArray⟩) ∧ w'.cell? ⟨b2, o2 + k * 4 + 3, none⟩ = some (.slice ka2' y.kids.length kc2')) ((first | go_keep | skip)) ((go_at_call 14; refine (HW.out _ hwr.drew).mono ?_; rintro e w1 ⟨rfl, hb1⟩; obtain ⟨q1, q2⟩ := bcell hb1; have hk1 := q1 b (o + k * 4) hz; have hk2 := q1 b (o + k * 4 + 1) hz; have hk3 := q1 b (o + k * 4 + 2) hz; have hk4 := q1 b (o + k * 4 + 3) hz; have hk5 := q1 b2 (o2 + k * 4) hz2; have hk6 := q1 b2 (o2 + k * 4 + 1) hz2; have hk7 := q1 b2 (o2 + k * 4 + 2) hz2; have hk8 := q1 b2 (o2 + k * 4 + 3) hz2))
     go_wp2_with fail
     go_roundw
     case rel => exact ⟨k + 1, hlt1, by go_num, HT, Lib.hid (by first | exact below_from HBr.out hb1 | exact below_from HBr.out (hb1.drew) | exact below_from HBr.out ((Below.refl _ _).drew.trans (hb1.mono (Nat.le_refl _))))⟩
     case measure => simp [intOf]; omega
   ·have hd2 : decide ((k : Int) < (B.length : Int)) = false := decide_eq_false (by omega)
    have hn2 : decide (k < B.length) = false := decide_eq_false (by omega)
    have HT : Hid (sharedN A B = k) := Lib.hid (by rw [HE.out, sharedN_end (.inr (by omega))]; rfl)
    clear HE
    go_wp2_with fail
    go_region
    go_wp2_with fail
    go_ret
    exact ⟨by rw [HT.out]; rfl, HBr.out.drew⟩
  ·have hd1 : decide ((k : Int) < (A.length : Int)) = false := decide_eq_false (by omega)
   have hn1 : decide (k < A.length) = false := decide_eq_false (by omega)
   have HT : Hid (sharedN A B = k) := Lib.hid (by rw [HE.out, sharedN_end (.inl (by omega))]; rfl)
   clear HE
   go_wp2_with fail
   go_region
   go_wp2_with fail
   go_ret
   exact ⟨by rw [HT.out]; rfl, HBr.out.drew⟩
end Go.Proofs.YteognfhemmogpaaGreatDoor
