/- The walk of slices.Repeat at one tag. -/
import Derived.Test.YteognfhemmogpaaGreatDoorRenRowWT
import Derived.Deep.OwnRows
import Derived.Test.YteognfhemmogpaaGreatDoorRenAlikeT
import Derived.Test.YteognfhemmogpaaGreatDoorRenFindPT
set_option linter.unusedVariables false
set_option linter.unusedSimpArgs false
namespace Go.Proofs.YteognfhemmogpaaGreatDoor
open Go.RowKit
open Go.Proofs.Qw
attribute [local go_sem ↓] Go.wp_at_zero Go.wp_at_succ
set_option maxHeartbeats 1000000 in
theorem mul_0 (w : World) : Calls Tryz.prog 40 #[.int .u64 1, .int .u64 0] w fun e w' => e = .returned (.tuple #[.int .u64 0, .int .u64 0]) ∧ w' = w := by
 go_enter Tryz.func40, Tryz.ntmps40
 go_wp2
 go_ret2
 exact ⟨rfl, rfl⟩
set_option maxHeartbeats 1000000 in
theorem mul_1 (w : World) : Calls Tryz.prog 40 #[.int .u64 1, .int .u64 1] w fun e w' => e = .returned (.tuple #[.int .u64 0, .int .u64 1]) ∧ w' = w := by
 go_enter Tryz.func40, Tryz.ntmps40
 go_wp2
 go_ret2
 exact ⟨rfl, rfl⟩
set_option maxHeartbeats 1000000 in
theorem mul_2 (w : World) : Calls Tryz.prog 40 #[.int .u64 1, .int .u64 2] w fun e w' => e = .returned (.tuple #[.int .u64 0, .int .u64 2]) ∧ w' = w := by
 go_enter Tryz.func40, Tryz.ntmps40
 go_wp2
 go_ret2
 exact ⟨rfl, rfl⟩
set_option maxHeartbeats 1000000 in
theorem mul_3 (w : World) : Calls Tryz.prog 40 #[.int .u64 1, .int .u64 3] w fun e w' => e = .returned (.tuple #[.int .u64 0, .int .u64 3]) ∧ w' = w := by
 go_enter Tryz.func40, Tryz.ntmps40
 go_wp2
 go_ret2
 exact ⟨rfl, rfl⟩
set_option maxHeartbeats 1000000 in
theorem mul_4 (w : World) : Calls Tryz.prog 40 #[.int .u64 1, .int .u64 4] w fun e w' => e = .returned (.tuple #[.int .u64 0, .int .u64 4]) ∧ w' = w := by
 go_enter Tryz.func40, Tryz.ntmps40
 go_wp2
 go_ret2
 exact ⟨rfl, rfl⟩
set_option maxHeartbeats 1000000 in
theorem mul_5 (w : World) : Calls Tryz.prog 40 #[.int .u64 1, .int .u64 5] w fun e w' => e = .returned (.tuple #[.int .u64 0, .int .u64 5]) ∧ w' = w := by
 go_enter Tryz.func40, Tryz.ntmps40
 go_wp2
 go_ret2
 exact ⟨rfl, rfl⟩
set_option maxHeartbeats 1000000 in
theorem mul_6 (w : World) : Calls Tryz.prog 40 #[.int .u64 1, .int .u64 6] w fun e w' => e = .returned (.tuple #[.int .u64 0, .int .u64 6]) ∧ w' = w := by
 go_enter Tryz.func40, Tryz.ntmps40
 go_wp2
 go_ret2
 exact ⟨rfl, rfl⟩
def sixes (q a : Nat) : List Value := List.replicate a (.int .i64 6) ++ List.replicate (q - a) (.int .i64 0)
theorem sixes_len {q a : Nat} (h : a ≤ q) : (sixes q a).length = q := by unfold sixes; simp; omega
theorem sixes_get {q a j : Nat} (h : j < a) : (sixes q a)[j]? = some (.int .i64 6) := by
 unfold sixes
 rw [List.getElem?_append_left (by simpa using h), List.getElem?_replicate, if_pos h]
theorem sixes_put {q a m : Nat} (h : a + m ≤ q) : (sixes q a).take a ++ List.replicate m (.int .i64 6) ++ (sixes q a).drop (a + m) = sixes q (a + m) := by
 apply List.ext_getElem?
 intro i
 unfold sixes
 simp only [List.getElem?_append, List.length_append, List.length_take, List.length_replicate, List.getElem?_take, List.getElem?_replicate, List.getElem?_drop]
 repeat' split
 all_goals first | rfl | omega | (congr 1; done) | skip
 all_goals (try simp_all) <;> omega
theorem put_cells (w : World) (b o : Nat) (l cs : List Value) (t : TypeId) (h : w.heap[b]? = some (.cells cs.toArray t)) (hl : o + l.length ≤ cs.length) :
  (w.setCells b o l).heap[b]? = some (.cells (cs.take o ++ l ++ cs.drop (o + l.length)).toArray t) := by
 obtain ⟨cs', h1, h2, h3, h4⟩ := setCells_heap l w b o cs.toArray t (0, 0) h (by simpa using hl)
 rw [h1]
 congr 2
 apply Array.ext_getElem?
 intro i
 by_cases hi : i < o
 ·rw [h3 i (.inl hi)]
  simp only [List.getElem?_toArray]
  rw [List.append_assoc, List.getElem?_append_left (by rw [List.length_take]; omega), List.getElem?_take, if_pos hi]
 ·by_cases hi2 : i < o + l.length
  ·have h5 := h4 (i - o) (l[i - o]'(by omega)) (by simp)
   rw [show o + (i - o) = i by omega] at h5
   rw [h5]
   simp only [List.getElem?_toArray]
   rw [List.append_assoc, List.getElem?_append_right (by rw [List.length_take]; omega), List.length_take, show i - min o cs.length = i - o by omega, List.getElem?_append_left (by omega)]
   simp
  ·rw [h3 i (.inr (by omega))]
   simp only [List.getElem?_toArray]
   rw [List.getElem?_append_right (by rw [List.length_append, List.length_take]; omega), List.getElem?_drop]
   congr 1
   rw [List.length_append, List.length_take]
   omega
theorem infoInt : (Tryz.prog.info? 3).map (·.size) = some 1 := by kernel_rfl
theorem copy_six (W : World) (N B q a m sl sc : Nat) (hB : W.heap[N]? = some (.cells (sixes q a).toArray 3)) (hq : a ≤ q) (hm : m = Nat.min sl (q - a)) (hs : ∀ j, j < m → W.cell? ⟨B, j, none⟩ = some (.int .i64 6)) :
  (Builtin.copy_ #[27, 27] 3 #[.slice (some ⟨N, a, none⟩) (q - a) (q - a), .slice (some ⟨B, 0, none⟩) sl sc]).run Tryz.prog W = .ok (.int .i64 m) (W.setCells N a (List.replicate m (.int .i64 6))) := by
 have hml : m ≤ q - a := by rw [hm]; exact Nat.min_le_right _ _
 have h := run_copy_cells (P := Tryz.prog) W 27 27 3 3 N a (q - a) (q - a) ⟨B, 0, none⟩ sl sc (List.replicate m (.int .i64 6)) Tryz.underlying27 infoInt (by simpa using hm)
  (fun j v hv => by
   rw [List.getElem?_replicate] at hv
   split at hv
   ·cases hv
    rw [WideShapes.add_plain, Nat.zero_add]
    exact hs j (by assumption)
   ·cases hv)
  (fun j hj => by
   rw [List.length_replicate] at hj
   rw [cell_of_heap hB]
   simp only [List.getElem?_toArray]
   rw [List.getElem?_eq_getElem (by rw [sixes_len hq]; omega)]
   rfl)
  (fun j hj => frozen_of_heap hB) (fun v hv => by rw [List.eq_of_mem_replicate hv]; rfl)
 rw [h]
 simp [goInt]
theorem six_row {q : Nat} {W : World} {N n : Nat} (hn : n ≤ N) (hq : q ≤ 6) (hB : W.heap[N]? = some (.cells (sixes q q).toArray 3)) : IntsR true W (fun b => n ≤ b) (.slice (some ⟨N, 0, none⟩) q q) (List.replicate q 6) := by
 have hlt := (Array.getElem?_eq_some_iff.1 hB).1
 refine ⟨_, q, by simp, by simp, by unfold maxLen; omega, .inr ⟨N, 0, rfl, hn, hlt, fun _ => ⟨_, hB, by simp [sixes_len (Nat.le_refl q)]⟩, fun i x hx => ?_⟩⟩
 have hi : i < q := by have := (List.getElem?_eq_some_iff.1 hx).1; simpa using this
 rw [List.getElem?_replicate, if_pos hi] at hx
 cases hx
 refine ⟨[.int .i64 6], rfl, rfl, fun j u hu => ?_⟩
 match j, hu with
 | 0, hu =>
  cases hu
  rw [cell_of_heap hB]
  simp only [List.getElem?_toArray, Nat.zero_add, Nat.mul_one, Nat.add_zero]
  exact sixes_get hi
set_option maxRecDepth 100000 in
set_option maxHeartbeats 4000000 in
theorem rep_0 (B : Nat) (w : World) (hB : w.heap[B]? = some (.cells #[.int .i64 6] 3)) : Calls Tryz.prog 22 #[.slice (some ⟨B, 0, none⟩) 1 1, .int .i64 0] w fun e w' => ∃ v', e = .returned v' ∧ IntsR true w' (fun b => w.heap.size ≤ b) v' (List.replicate 0 6) ∧ Below w.heap.size w w' := by
 obtain ⟨q0, f0⟩ := blk hB
 have hlt : B < w.heap.size := (Array.getElem?_eq_some_iff.1 hB).1
 obtain ⟨W1, hW1⟩ : ∃ W1, w.alloc (.cells (sixes 0 0).toArray 3) = W1 := ⟨_, rfl⟩
 have hmk : (Instr.makeSlice 27 (.int .i64 0) (.int .i64 0)).run Tryz.prog w = .ok (.slice (some ⟨w.heap.size, 0, none⟩) 0 0) W1 := by
  have h := run_make_row' (P := Tryz.prog) 27 3 (.int .i64 0) 8 Tryz.underlying27 (by kernel_rfl) rfl .i64 .i64 0 (by omega) (by omega) w
  have e : madeCells #[Value.int .i64 0] 0 = (sixes 0 0).toArray := by kernel_rfl
  rw [← hW1, ← e]
  exact h
 have hb1 : Below w.heap.size w W1 := hW1 ▸ (Below.refl _ _).alloc (Nat.le_refl _) _
 have hN : W1.heap[w.heap.size]? = some (.cells (sixes 0 0).toArray 3) := hW1 ▸ heap_new _ _ rfl
 have hcp := copy_six W1 w.heap.size B 0 0 (Nat.min 1 0) 1 1 hN (Nat.zero_le _) rfl (fun j hj => by
  have : j = 0 := by have : Nat.min 1 0 ≤ 1 := Nat.min_le_left _ _; omega
  subst this
  rw [(blk (heap_below hb1 hB)).1 0]; rfl)
 have hp1 := put_cells W1 w.heap.size 0 (List.replicate (Nat.min 1 0) (.int .i64 6)) (sixes 0 0) 3 hN (by rw [sixes_len (Nat.zero_le _), List.length_replicate]; decide)
 rw [List.length_replicate, sixes_put (q := 0) (a := 0) (m := Nat.min 1 0) (by decide)] at hp1
 have hb2 : Below w.heap.size w (W1.setCells w.heap.size 0 (List.replicate (Nat.min 1 0) (.int .i64 6))) := hb1.trans (setCells_below (Nat.le_refl _))
 have HCP : Hid ((Builtin.copy_ #[27, 27] 3 #[.slice (some ⟨w.heap.size, 0, none⟩) 0 0, .slice (some ⟨B, 0, none⟩) 1 1]).run Tryz.prog W1 = .ok (.int .i64 ((Nat.min 1 0 : Nat) : Int)) (W1.setCells w.heap.size 0 (List.replicate (Nat.min 1 0) (.int .i64 6)))) := Lib.hid hcp
 obtain ⟨W2, hW2⟩ : ∃ W2, W1.setCells w.heap.size 0 (List.replicate (Nat.min 1 0) (.int .i64 6)) = W2 := ⟨_, rfl⟩
 rw [hW2] at HCP hp1 hb2
 have HP1 := Lib.hid hp1
 have HB2 := Lib.hid hb2
 clear hcp hp1 hb2 hW2 hN hb1 hW1 q0 f0 hB
 go_enter Tryz.func22, Tryz.ntmps22
 go_wp2_with (first
  | (go_at_call 40; refine (mul_0 _).mono ?_; rintro e w2 ⟨rfl, hw2⟩; obtain rfl := hw2.symm)
  | (refine wpList_copy_run _ rfl _ _ _ _ rfl _ _ rfl rfl _ _ HCP.out ?_))
 go_loopw [8] (fun n wr => ∃ a : Nat, Nat.min 1 0 ≤ a ∧ a ≤ 0 ∧ n = .int .i64 a ∧ Hid (wr.heap[w.heap.size]? = some (.cells (sixes 0 a).toArray 3)) ∧ Hid (Below w.heap.size w wr)) (fun n _ => 0 - (intOf n).toNat)
 case atStart => exact ⟨Nat.min 1 0, Nat.le_refl _, by decide, rfl, HP1, HB2⟩
 case round =>
  obtain ⟨a, ha1, ha2, rfl, HN, HBr⟩ := hrel
  by_cases hlt2 : a < 0
  ·exact absurd hlt2 (Nat.not_lt_zero _)
  ·obtain rfl : a = 0 := by omega
   have HRow := Lib.hid (six_row (n := w.heap.size) (Nat.le_refl _) (by omega) HN.out)
   go_wp2_with fail
   go_ret
   exact ⟨_, rfl, HRow.out, HBr.out⟩
set_option maxRecDepth 100000 in
set_option maxHeartbeats 4000000 in
theorem rep_1 (B : Nat) (w : World) (hB : w.heap[B]? = some (.cells #[.int .i64 6] 3)) : Calls Tryz.prog 22 #[.slice (some ⟨B, 0, none⟩) 1 1, .int .i64 1] w fun e w' => ∃ v', e = .returned v' ∧ IntsR true w' (fun b => w.heap.size ≤ b) v' (List.replicate 1 6) ∧ Below w.heap.size w w' := by
 obtain ⟨q0, f0⟩ := blk hB
 have hlt : B < w.heap.size := (Array.getElem?_eq_some_iff.1 hB).1
 obtain ⟨W1, hW1⟩ : ∃ W1, w.alloc (.cells (sixes 1 0).toArray 3) = W1 := ⟨_, rfl⟩
 have hmk : (Instr.makeSlice 27 (.int .i64 1) (.int .i64 1)).run Tryz.prog w = .ok (.slice (some ⟨w.heap.size, 0, none⟩) 1 1) W1 := by
  have h := run_make_row' (P := Tryz.prog) 27 3 (.int .i64 0) 8 Tryz.underlying27 (by kernel_rfl) rfl .i64 .i64 1 (by omega) (by omega) w
  have e : madeCells #[Value.int .i64 0] 1 = (sixes 1 0).toArray := by kernel_rfl
  rw [← hW1, ← e]
  exact h
 have hb1 : Below w.heap.size w W1 := hW1 ▸ (Below.refl _ _).alloc (Nat.le_refl _) _
 have hN : W1.heap[w.heap.size]? = some (.cells (sixes 1 0).toArray 3) := hW1 ▸ heap_new _ _ rfl
 have hcp := copy_six W1 w.heap.size B 1 0 (Nat.min 1 1) 1 1 hN (Nat.zero_le _) rfl (fun j hj => by
  have : j = 0 := by have : Nat.min 1 1 ≤ 1 := Nat.min_le_left _ _; omega
  subst this
  rw [(blk (heap_below hb1 hB)).1 0]; rfl)
 have hp1 := put_cells W1 w.heap.size 0 (List.replicate (Nat.min 1 1) (.int .i64 6)) (sixes 1 0) 3 hN (by rw [sixes_len (Nat.zero_le _), List.length_replicate]; decide)
 rw [List.length_replicate, sixes_put (q := 1) (a := 0) (m := Nat.min 1 1) (by decide)] at hp1
 have hb2 : Below w.heap.size w (W1.setCells w.heap.size 0 (List.replicate (Nat.min 1 1) (.int .i64 6))) := hb1.trans (setCells_below (Nat.le_refl _))
 have HCP : Hid ((Builtin.copy_ #[27, 27] 3 #[.slice (some ⟨w.heap.size, 0, none⟩) 1 1, .slice (some ⟨B, 0, none⟩) 1 1]).run Tryz.prog W1 = .ok (.int .i64 ((Nat.min 1 1 : Nat) : Int)) (W1.setCells w.heap.size 0 (List.replicate (Nat.min 1 1) (.int .i64 6)))) := Lib.hid hcp
 obtain ⟨W2, hW2⟩ : ∃ W2, W1.setCells w.heap.size 0 (List.replicate (Nat.min 1 1) (.int .i64 6)) = W2 := ⟨_, rfl⟩
 rw [hW2] at HCP hp1 hb2
 have HP1 := Lib.hid hp1
 have HB2 := Lib.hid hb2
 clear hcp hp1 hb2 hW2 hN hb1 hW1 q0 f0 hB
 go_enter Tryz.func22, Tryz.ntmps22
 go_wp2_with (first
  | (go_at_call 40; refine (mul_1 _).mono ?_; rintro e w2 ⟨rfl, hw2⟩; obtain rfl := hw2.symm)
  | (refine wpList_copy_run _ rfl _ _ _ _ rfl _ _ rfl rfl _ _ HCP.out ?_))
 go_loopw [8] (fun n wr => ∃ a : Nat, Nat.min 1 1 ≤ a ∧ a ≤ 1 ∧ n = .int .i64 a ∧ Hid (wr.heap[w.heap.size]? = some (.cells (sixes 1 a).toArray 3)) ∧ Hid (Below w.heap.size w wr)) (fun n _ => 1 - (intOf n).toNat)
 case atStart => exact ⟨Nat.min 1 1, Nat.le_refl _, by decide, rfl, HP1, HB2⟩
 case round =>
  obtain ⟨a, ha1, ha2, rfl, HN, HBr⟩ := hrel
  by_cases hlt2 : a < 1
  ·exact absurd hlt2 (by have : 1 ≤ a := ha1; omega)
  ·obtain rfl : a = 1 := by omega
   have HRow := Lib.hid (six_row (n := w.heap.size) (Nat.le_refl _) (by omega) HN.out)
   go_wp2_with fail
   go_ret
   exact ⟨_, rfl, HRow.out, HBr.out⟩
set_option maxRecDepth 100000 in
set_option maxHeartbeats 4000000 in
theorem rep_2 (B : Nat) (w : World) (hB : w.heap[B]? = some (.cells #[.int .i64 6] 3)) : Calls Tryz.prog 22 #[.slice (some ⟨B, 0, none⟩) 1 1, .int .i64 2] w fun e w' => ∃ v', e = .returned v' ∧ IntsR true w' (fun b => w.heap.size ≤ b) v' (List.replicate 2 6) ∧ Below w.heap.size w w' := by
 obtain ⟨q0, f0⟩ := blk hB
 have hlt : B < w.heap.size := (Array.getElem?_eq_some_iff.1 hB).1
 obtain ⟨W1, hW1⟩ : ∃ W1, w.alloc (.cells (sixes 2 0).toArray 3) = W1 := ⟨_, rfl⟩
 have hmk : (Instr.makeSlice 27 (.int .i64 2) (.int .i64 2)).run Tryz.prog w = .ok (.slice (some ⟨w.heap.size, 0, none⟩) 2 2) W1 := by
  have h := run_make_row' (P := Tryz.prog) 27 3 (.int .i64 0) 8 Tryz.underlying27 (by kernel_rfl) rfl .i64 .i64 2 (by omega) (by omega) w
  have e : madeCells #[Value.int .i64 0] 2 = (sixes 2 0).toArray := by kernel_rfl
  rw [← hW1, ← e]
  exact h
 have hb1 : Below w.heap.size w W1 := hW1 ▸ (Below.refl _ _).alloc (Nat.le_refl _) _
 have hN : W1.heap[w.heap.size]? = some (.cells (sixes 2 0).toArray 3) := hW1 ▸ heap_new _ _ rfl
 have hcp := copy_six W1 w.heap.size B 2 0 (Nat.min 1 2) 1 1 hN (Nat.zero_le _) rfl (fun j hj => by
  have : j = 0 := by have : Nat.min 1 2 ≤ 1 := Nat.min_le_left _ _; omega
  subst this
  rw [(blk (heap_below hb1 hB)).1 0]; rfl)
 have hp1 := put_cells W1 w.heap.size 0 (List.replicate (Nat.min 1 2) (.int .i64 6)) (sixes 2 0) 3 hN (by rw [sixes_len (Nat.zero_le _), List.length_replicate]; decide)
 rw [List.length_replicate, sixes_put (q := 2) (a := 0) (m := Nat.min 1 2) (by decide)] at hp1
 have hb2 : Below w.heap.size w (W1.setCells w.heap.size 0 (List.replicate (Nat.min 1 2) (.int .i64 6))) := hb1.trans (setCells_below (Nat.le_refl _))
 have HCP : Hid ((Builtin.copy_ #[27, 27] 3 #[.slice (some ⟨w.heap.size, 0, none⟩) 2 2, .slice (some ⟨B, 0, none⟩) 1 1]).run Tryz.prog W1 = .ok (.int .i64 ((Nat.min 1 2 : Nat) : Int)) (W1.setCells w.heap.size 0 (List.replicate (Nat.min 1 2) (.int .i64 6)))) := Lib.hid hcp
 obtain ⟨W2, hW2⟩ : ∃ W2, W1.setCells w.heap.size 0 (List.replicate (Nat.min 1 2) (.int .i64 6)) = W2 := ⟨_, rfl⟩
 rw [hW2] at HCP hp1 hb2
 have HP1 := Lib.hid hp1
 have HB2 := Lib.hid hb2
 clear hcp hp1 hb2 hW2 hN hb1 hW1 q0 f0 hB
 go_enter Tryz.func22, Tryz.ntmps22
 go_wp2_with (first
  | (go_at_call 40; refine (mul_2 _).mono ?_; rintro e w2 ⟨rfl, hw2⟩; obtain rfl := hw2.symm)
  | (refine wpList_copy_run _ rfl _ _ _ _ rfl _ _ rfl rfl _ _ HCP.out ?_))
 go_loopw [8] (fun n wr => ∃ a : Nat, Nat.min 1 2 ≤ a ∧ a ≤ 2 ∧ n = .int .i64 a ∧ Hid (wr.heap[w.heap.size]? = some (.cells (sixes 2 a).toArray 3)) ∧ Hid (Below w.heap.size w wr)) (fun n _ => 2 - (intOf n).toNat)
 case atStart => exact ⟨Nat.min 1 2, Nat.le_refl _, by decide, rfl, HP1, HB2⟩
 case round =>
  obtain ⟨a, ha1, ha2, rfl, HN, HBr⟩ := hrel
  by_cases hlt2 : a < 2
  ·have ha0 : Nat.min 1 2 ≤ a := ha1
   have hN := HN.out
   have hcp := copy_six wr.drew w.heap.size w.heap.size 2 a (Nat.min a (2 - a)) a 2 hN ha2 rfl (fun j hj => by
    have : Nat.min a (2 - a) ≤ a := Nat.min_le_left _ _
    rw [cell_of_heap (w := wr.drew) (B := w.heap.size) hN]
    simp only [List.getElem?_toArray]
    exact sixes_get (by omega))
   have hml : Nat.min a (2 - a) ≤ 2 - a := Nat.min_le_right _ _
   have hma : Nat.min a (2 - a) ≤ a := Nat.min_le_left _ _
   obtain ⟨m, hm⟩ : ∃ m, Nat.min a (2 - a) = m := ⟨_, rfl⟩
   have hm0 : 0 < m := by
    rw [← hm]
    have h1 : 0 < a := by first | omega | exact Nat.lt_of_lt_of_le (by decide) ha0
    exact Nat.lt_min.2 ⟨h1, by omega⟩
   rw [hm] at hcp hml hma
   have hp := put_cells wr.drew w.heap.size a (List.replicate m (.int .i64 6)) (sixes 2 a) 3 hN (by rw [sixes_len ha2, List.length_replicate]; omega)
   rw [List.length_replicate, sixes_put (by omega)] at hp
   have hb3 : Below w.heap.size w (wr.drew.setCells w.heap.size a (List.replicate m (.int .i64 6))) := HBr.out.drew.trans (setCells_below (Nat.le_refl _))
   have HC2 := Lib.hid hcp
   have HP := Lib.hid hp
   have HB3 := Lib.hid hb3
   have hne : ¬ 2 = a := by omega
   have hne2 : ¬ a = 2 := by omega
   have j0 : (0 : Int) ≤ (a : Int) := Int.natCast_nonneg _
   have j1 : (a : Int) ≤ 2 := by omega
   clear hcp hp hb3 hN hm ha0
   have HM0 := Lib.hid (And.intro hm0 (And.intro hml ha1))
   have hw9 : IntKind.i64.wrap ((a : Int) + (m : Int)) = ((a + m : Nat) : Int) := by rw [IntKind.wrap_i64]; omega
   go_wp2_with fail
   go_region_held3 (fun _ => True) (trivial) ((refine step_copy_run (by rfl) _ _ _ _ (by rfl) _ _ (by rfl) (by rfl) _ _ HC2.out ?_))
   go_wp2_with fail
   go_roundw
   case rel => exact ⟨a + m, by have := HM0.out; omega, by have := HM0.out; omega, by go_num, HP, HB3⟩
   case measure => have := HM0.out; simp only [intOf]; omega
  ·obtain rfl : a = 2 := by omega
   have HRow := Lib.hid (six_row (n := w.heap.size) (Nat.le_refl _) (by omega) HN.out)
   go_wp2_with fail
   go_ret
   exact ⟨_, rfl, HRow.out, HBr.out⟩
set_option maxRecDepth 100000 in
set_option maxHeartbeats 4000000 in
theorem rep_3 (B : Nat) (w : World) (hB : w.heap[B]? = some (.cells #[.int .i64 6] 3)) : Calls Tryz.prog 22 #[.slice (some ⟨B, 0, none⟩) 1 1, .int .i64 3] w fun e w' => ∃ v', e = .returned v' ∧ IntsR true w' (fun b => w.heap.size ≤ b) v' (List.replicate 3 6) ∧ Below w.heap.size w w' := by
 obtain ⟨q0, f0⟩ := blk hB
 have hlt : B < w.heap.size := (Array.getElem?_eq_some_iff.1 hB).1
 obtain ⟨W1, hW1⟩ : ∃ W1, w.alloc (.cells (sixes 3 0).toArray 3) = W1 := ⟨_, rfl⟩
 have hmk : (Instr.makeSlice 27 (.int .i64 3) (.int .i64 3)).run Tryz.prog w = .ok (.slice (some ⟨w.heap.size, 0, none⟩) 3 3) W1 := by
  have h := run_make_row' (P := Tryz.prog) 27 3 (.int .i64 0) 8 Tryz.underlying27 (by kernel_rfl) rfl .i64 .i64 3 (by omega) (by omega) w
  have e : madeCells #[Value.int .i64 0] 3 = (sixes 3 0).toArray := by kernel_rfl
  rw [← hW1, ← e]
  exact h
 have hb1 : Below w.heap.size w W1 := hW1 ▸ (Below.refl _ _).alloc (Nat.le_refl _) _
 have hN : W1.heap[w.heap.size]? = some (.cells (sixes 3 0).toArray 3) := hW1 ▸ heap_new _ _ rfl
 have hcp := copy_six W1 w.heap.size B 3 0 (Nat.min 1 3) 1 1 hN (Nat.zero_le _) rfl (fun j hj => by
  have : j = 0 := by have : Nat.min 1 3 ≤ 1 := Nat.min_le_left _ _; omega
  subst this
  rw [(blk (heap_below hb1 hB)).1 0]; rfl)
 have hp1 := put_cells W1 w.heap.size 0 (List.replicate (Nat.min 1 3) (.int .i64 6)) (sixes 3 0) 3 hN (by rw [sixes_len (Nat.zero_le _), List.length_replicate]; decide)
 rw [List.length_replicate, sixes_put (q := 3) (a := 0) (m := Nat.min 1 3) (by decide)] at hp1
 have hb2 : Below w.heap.size w (W1.setCells w.heap.size 0 (List.replicate (Nat.min 1 3) (.int .i64 6))) := hb1.trans (setCells_below (Nat.le_refl _))
 have HCP : Hid ((Builtin.copy_ #[27, 27] 3 #[.slice (some ⟨w.heap.size, 0, none⟩) 3 3, .slice (some ⟨B, 0, none⟩) 1 1]).run Tryz.prog W1 = .ok (.int .i64 ((Nat.min 1 3 : Nat) : Int)) (W1.setCells w.heap.size 0 (List.replicate (Nat.min 1 3) (.int .i64 6)))) := Lib.hid hcp
 obtain ⟨W2, hW2⟩ : ∃ W2, W1.setCells w.heap.size 0 (List.replicate (Nat.min 1 3) (.int .i64 6)) = W2 := ⟨_, rfl⟩
 rw [hW2] at HCP hp1 hb2
 have HP1 := Lib.hid hp1
 have HB2 := Lib.hid hb2
 clear hcp hp1 hb2 hW2 hN hb1 hW1 q0 f0 hB
 go_enter Tryz.func22, Tryz.ntmps22
 go_wp2_with (first
  | (go_at_call 40; refine (mul_3 _).mono ?_; rintro e w2 ⟨rfl, hw2⟩; obtain rfl := hw2.symm)
  | (refine wpList_copy_run _ rfl _ _ _ _ rfl _ _ rfl rfl _ _ HCP.out ?_))
 go_loopw [8] (fun n wr => ∃ a : Nat, Nat.min 1 3 ≤ a ∧ a ≤ 3 ∧ n = .int .i64 a ∧ Hid (wr.heap[w.heap.size]? = some (.cells (sixes 3 a).toArray 3)) ∧ Hid (Below w.heap.size w wr)) (fun n _ => 3 - (intOf n).toNat)
 case atStart => exact ⟨Nat.min 1 3, Nat.le_refl _, by decide, rfl, HP1, HB2⟩
 case round =>
  obtain ⟨a, ha1, ha2, rfl, HN, HBr⟩ := hrel
  by_cases hlt2 : a < 3
  ·have ha0 : Nat.min 1 3 ≤ a := ha1
   have hN := HN.out
   have hcp := copy_six wr.drew w.heap.size w.heap.size 3 a (Nat.min a (3 - a)) a 3 hN ha2 rfl (fun j hj => by
    have : Nat.min a (3 - a) ≤ a := Nat.min_le_left _ _
    rw [cell_of_heap (w := wr.drew) (B := w.heap.size) hN]
    simp only [List.getElem?_toArray]
    exact sixes_get (by omega))
   have hml : Nat.min a (3 - a) ≤ 3 - a := Nat.min_le_right _ _
   have hma : Nat.min a (3 - a) ≤ a := Nat.min_le_left _ _
   obtain ⟨m, hm⟩ : ∃ m, Nat.min a (3 - a) = m := ⟨_, rfl⟩
   have hm0 : 0 < m := by
    rw [← hm]
    have h1 : 0 < a := by first | omega | exact Nat.lt_of_lt_of_le (by decide) ha0
    exact Nat.lt_min.2 ⟨h1, by omega⟩
   rw [hm] at hcp hml hma
   have hp := put_cells wr.drew w.heap.size a (List.replicate m (.int .i64 6)) (sixes 3 a) 3 hN (by rw [sixes_len ha2, List.length_replicate]; omega)
   rw [List.length_replicate, sixes_put (by omega)] at hp
   have hb3 : Below w.heap.size w (wr.drew.setCells w.heap.size a (List.replicate m (.int .i64 6))) := HBr.out.drew.trans (setCells_below (Nat.le_refl _))
   have HC2 := Lib.hid hcp
   have HP := Lib.hid hp
   have HB3 := Lib.hid hb3
   have hne : ¬ 3 = a := by omega
   have hne2 : ¬ a = 3 := by omega
   have j0 : (0 : Int) ≤ (a : Int) := Int.natCast_nonneg _
   have j1 : (a : Int) ≤ 3 := by omega
   clear hcp hp hb3 hN hm ha0
   have HM0 := Lib.hid (And.intro hm0 (And.intro hml ha1))
   have hw9 : IntKind.i64.wrap ((a : Int) + (m : Int)) = ((a + m : Nat) : Int) := by rw [IntKind.wrap_i64]; omega
   go_wp2_with fail
   go_region_held3 (fun _ => True) (trivial) ((refine step_copy_run (by rfl) _ _ _ _ (by rfl) _ _ (by rfl) (by rfl) _ _ HC2.out ?_))
   go_wp2_with fail
   go_roundw
   case rel => exact ⟨a + m, by have := HM0.out; omega, by have := HM0.out; omega, by go_num, HP, HB3⟩
   case measure => have := HM0.out; simp only [intOf]; omega
  ·obtain rfl : a = 3 := by omega
   have HRow := Lib.hid (six_row (n := w.heap.size) (Nat.le_refl _) (by omega) HN.out)
   go_wp2_with fail
   go_ret
   exact ⟨_, rfl, HRow.out, HBr.out⟩
set_option maxRecDepth 100000 in
set_option maxHeartbeats 4000000 in
theorem rep_4 (B : Nat) (w : World) (hB : w.heap[B]? = some (.cells #[.int .i64 6] 3)) : Calls Tryz.prog 22 #[.slice (some ⟨B, 0, none⟩) 1 1, .int .i64 4] w fun e w' => ∃ v', e = .returned v' ∧ IntsR true w' (fun b => w.heap.size ≤ b) v' (List.replicate 4 6) ∧ Below w.heap.size w w' := by
 obtain ⟨q0, f0⟩ := blk hB
 have hlt : B < w.heap.size := (Array.getElem?_eq_some_iff.1 hB).1
 obtain ⟨W1, hW1⟩ : ∃ W1, w.alloc (.cells (sixes 4 0).toArray 3) = W1 := ⟨_, rfl⟩
 have hmk : (Instr.makeSlice 27 (.int .i64 4) (.int .i64 4)).run Tryz.prog w = .ok (.slice (some ⟨w.heap.size, 0, none⟩) 4 4) W1 := by
  have h := run_make_row' (P := Tryz.prog) 27 3 (.int .i64 0) 8 Tryz.underlying27 (by kernel_rfl) rfl .i64 .i64 4 (by omega) (by omega) w
  have e : madeCells #[Value.int .i64 0] 4 = (sixes 4 0).toArray := by kernel_rfl
  rw [← hW1, ← e]
  exact h
 have hb1 : Below w.heap.size w W1 := hW1 ▸ (Below.refl _ _).alloc (Nat.le_refl _) _
 have hN : W1.heap[w.heap.size]? = some (.cells (sixes 4 0).toArray 3) := hW1 ▸ heap_new _ _ rfl
 have hcp := copy_six W1 w.heap.size B 4 0 (Nat.min 1 4) 1 1 hN (Nat.zero_le _) rfl (fun j hj => by
  have : j = 0 := by have : Nat.min 1 4 ≤ 1 := Nat.min_le_left _ _; omega
  subst this
  rw [(blk (heap_below hb1 hB)).1 0]; rfl)
 have hp1 := put_cells W1 w.heap.size 0 (List.replicate (Nat.min 1 4) (.int .i64 6)) (sixes 4 0) 3 hN (by rw [sixes_len (Nat.zero_le _), List.length_replicate]; decide)
 rw [List.length_replicate, sixes_put (q := 4) (a := 0) (m := Nat.min 1 4) (by decide)] at hp1
 have hb2 : Below w.heap.size w (W1.setCells w.heap.size 0 (List.replicate (Nat.min 1 4) (.int .i64 6))) := hb1.trans (setCells_below (Nat.le_refl _))
 have HCP : Hid ((Builtin.copy_ #[27, 27] 3 #[.slice (some ⟨w.heap.size, 0, none⟩) 4 4, .slice (some ⟨B, 0, none⟩) 1 1]).run Tryz.prog W1 = .ok (.int .i64 ((Nat.min 1 4 : Nat) : Int)) (W1.setCells w.heap.size 0 (List.replicate (Nat.min 1 4) (.int .i64 6)))) := Lib.hid hcp
 obtain ⟨W2, hW2⟩ : ∃ W2, W1.setCells w.heap.size 0 (List.replicate (Nat.min 1 4) (.int .i64 6)) = W2 := ⟨_, rfl⟩
 rw [hW2] at HCP hp1 hb2
 have HP1 := Lib.hid hp1
 have HB2 := Lib.hid hb2
 clear hcp hp1 hb2 hW2 hN hb1 hW1 q0 f0 hB
 go_enter Tryz.func22, Tryz.ntmps22
 go_wp2_with (first
  | (go_at_call 40; refine (mul_4 _).mono ?_; rintro e w2 ⟨rfl, hw2⟩; obtain rfl := hw2.symm)
  | (refine wpList_copy_run _ rfl _ _ _ _ rfl _ _ rfl rfl _ _ HCP.out ?_))
 go_loopw [8] (fun n wr => ∃ a : Nat, Nat.min 1 4 ≤ a ∧ a ≤ 4 ∧ n = .int .i64 a ∧ Hid (wr.heap[w.heap.size]? = some (.cells (sixes 4 a).toArray 3)) ∧ Hid (Below w.heap.size w wr)) (fun n _ => 4 - (intOf n).toNat)
 case atStart => exact ⟨Nat.min 1 4, Nat.le_refl _, by decide, rfl, HP1, HB2⟩
 case round =>
  obtain ⟨a, ha1, ha2, rfl, HN, HBr⟩ := hrel
  by_cases hlt2 : a < 4
  ·have ha0 : Nat.min 1 4 ≤ a := ha1
   have hN := HN.out
   have hcp := copy_six wr.drew w.heap.size w.heap.size 4 a (Nat.min a (4 - a)) a 4 hN ha2 rfl (fun j hj => by
    have : Nat.min a (4 - a) ≤ a := Nat.min_le_left _ _
    rw [cell_of_heap (w := wr.drew) (B := w.heap.size) hN]
    simp only [List.getElem?_toArray]
    exact sixes_get (by omega))
   have hml : Nat.min a (4 - a) ≤ 4 - a := Nat.min_le_right _ _
   have hma : Nat.min a (4 - a) ≤ a := Nat.min_le_left _ _
   obtain ⟨m, hm⟩ : ∃ m, Nat.min a (4 - a) = m := ⟨_, rfl⟩
   have hm0 : 0 < m := by
    rw [← hm]
    have h1 : 0 < a := by first | omega | exact Nat.lt_of_lt_of_le (by decide) ha0
    exact Nat.lt_min.2 ⟨h1, by omega⟩
   rw [hm] at hcp hml hma
   have hp := put_cells wr.drew w.heap.size a (List.replicate m (.int .i64 6)) (sixes 4 a) 3 hN (by rw [sixes_len ha2, List.length_replicate]; omega)
   rw [List.length_replicate, sixes_put (by omega)] at hp
   have hb3 : Below w.heap.size w (wr.drew.setCells w.heap.size a (List.replicate m (.int .i64 6))) := HBr.out.drew.trans (setCells_below (Nat.le_refl _))
   have HC2 := Lib.hid hcp
   have HP := Lib.hid hp
   have HB3 := Lib.hid hb3
   have hne : ¬ 4 = a := by omega
   have hne2 : ¬ a = 4 := by omega
   have j0 : (0 : Int) ≤ (a : Int) := Int.natCast_nonneg _
   have j1 : (a : Int) ≤ 4 := by omega
   clear hcp hp hb3 hN hm ha0
   have HM0 := Lib.hid (And.intro hm0 (And.intro hml ha1))
   have hw9 : IntKind.i64.wrap ((a : Int) + (m : Int)) = ((a + m : Nat) : Int) := by rw [IntKind.wrap_i64]; omega
   go_wp2_with fail
   go_region_held3 (fun _ => True) (trivial) ((refine step_copy_run (by rfl) _ _ _ _ (by rfl) _ _ (by rfl) (by rfl) _ _ HC2.out ?_))
   go_wp2_with fail
   go_roundw
   case rel => exact ⟨a + m, by have := HM0.out; omega, by have := HM0.out; omega, by go_num, HP, HB3⟩
   case measure => have := HM0.out; simp only [intOf]; omega
  ·obtain rfl : a = 4 := by omega
   have HRow := Lib.hid (six_row (n := w.heap.size) (Nat.le_refl _) (by omega) HN.out)
   go_wp2_with fail
   go_ret
   exact ⟨_, rfl, HRow.out, HBr.out⟩
set_option maxRecDepth 100000 in
set_option maxHeartbeats 4000000 in
theorem rep_5 (B : Nat) (w : World) (hB : w.heap[B]? = some (.cells #[.int .i64 6] 3)) : Calls Tryz.prog 22 #[.slice (some ⟨B, 0, none⟩) 1 1, .int .i64 5] w fun e w' => ∃ v', e = .returned v' ∧ IntsR true w' (fun b => w.heap.size ≤ b) v' (List.replicate 5 6) ∧ Below w.heap.size w w' := by
 obtain ⟨q0, f0⟩ := blk hB
 have hlt : B < w.heap.size := (Array.getElem?_eq_some_iff.1 hB).1
 obtain ⟨W1, hW1⟩ : ∃ W1, w.alloc (.cells (sixes 5 0).toArray 3) = W1 := ⟨_, rfl⟩
 have hmk : (Instr.makeSlice 27 (.int .i64 5) (.int .i64 5)).run Tryz.prog w = .ok (.slice (some ⟨w.heap.size, 0, none⟩) 5 5) W1 := by
  have h := run_make_row' (P := Tryz.prog) 27 3 (.int .i64 0) 8 Tryz.underlying27 (by kernel_rfl) rfl .i64 .i64 5 (by omega) (by omega) w
  have e : madeCells #[Value.int .i64 0] 5 = (sixes 5 0).toArray := by kernel_rfl
  rw [← hW1, ← e]
  exact h
 have hb1 : Below w.heap.size w W1 := hW1 ▸ (Below.refl _ _).alloc (Nat.le_refl _) _
 have hN : W1.heap[w.heap.size]? = some (.cells (sixes 5 0).toArray 3) := hW1 ▸ heap_new _ _ rfl
 have hcp := copy_six W1 w.heap.size B 5 0 (Nat.min 1 5) 1 1 hN (Nat.zero_le _) rfl (fun j hj => by
  have : j = 0 := by have : Nat.min 1 5 ≤ 1 := Nat.min_le_left _ _; omega
  subst this
  rw [(blk (heap_below hb1 hB)).1 0]; rfl)
 have hp1 := put_cells W1 w.heap.size 0 (List.replicate (Nat.min 1 5) (.int .i64 6)) (sixes 5 0) 3 hN (by rw [sixes_len (Nat.zero_le _), List.length_replicate]; decide)
 rw [List.length_replicate, sixes_put (q := 5) (a := 0) (m := Nat.min 1 5) (by decide)] at hp1
 have hb2 : Below w.heap.size w (W1.setCells w.heap.size 0 (List.replicate (Nat.min 1 5) (.int .i64 6))) := hb1.trans (setCells_below (Nat.le_refl _))
 have HCP : Hid ((Builtin.copy_ #[27, 27] 3 #[.slice (some ⟨w.heap.size, 0, none⟩) 5 5, .slice (some ⟨B, 0, none⟩) 1 1]).run Tryz.prog W1 = .ok (.int .i64 ((Nat.min 1 5 : Nat) : Int)) (W1.setCells w.heap.size 0 (List.replicate (Nat.min 1 5) (.int .i64 6)))) := Lib.hid hcp
 obtain ⟨W2, hW2⟩ : ∃ W2, W1.setCells w.heap.size 0 (List.replicate (Nat.min 1 5) (.int .i64 6)) = W2 := ⟨_, rfl⟩
 rw [hW2] at HCP hp1 hb2
 have HP1 := Lib.hid hp1
 have HB2 := Lib.hid hb2
 clear hcp hp1 hb2 hW2 hN hb1 hW1 q0 f0 hB
 go_enter Tryz.func22, Tryz.ntmps22
 go_wp2_with (first
  | (go_at_call 40; refine (mul_5 _).mono ?_; rintro e w2 ⟨rfl, hw2⟩; obtain rfl := hw2.symm)
  | (refine wpList_copy_run _ rfl _ _ _ _ rfl _ _ rfl rfl _ _ HCP.out ?_))
 go_loopw [8] (fun n wr => ∃ a : Nat, Nat.min 1 5 ≤ a ∧ a ≤ 5 ∧ n = .int .i64 a ∧ Hid (wr.heap[w.heap.size]? = some (.cells (sixes 5 a).toArray 3)) ∧ Hid (Below w.heap.size w wr)) (fun n _ => 5 - (intOf n).toNat)
 case atStart => exact ⟨Nat.min 1 5, Nat.le_refl _, by decide, rfl, HP1, HB2⟩
 case round =>
  obtain ⟨a, ha1, ha2, rfl, HN, HBr⟩ := hrel
  by_cases hlt2 : a < 5
  ·have ha0 : Nat.min 1 5 ≤ a := ha1
   have hN := HN.out
   have hcp := copy_six wr.drew w.heap.size w.heap.size 5 a (Nat.min a (5 - a)) a 5 hN ha2 rfl (fun j hj => by
    have : Nat.min a (5 - a) ≤ a := Nat.min_le_left _ _
    rw [cell_of_heap (w := wr.drew) (B := w.heap.size) hN]
    simp only [List.getElem?_toArray]
    exact sixes_get (by omega))
   have hml : Nat.min a (5 - a) ≤ 5 - a := Nat.min_le_right _ _
   have hma : Nat.min a (5 - a) ≤ a := Nat.min_le_left _ _
   obtain ⟨m, hm⟩ : ∃ m, Nat.min a (5 - a) = m := ⟨_, rfl⟩
   have hm0 : 0 < m := by
    rw [← hm]
    have h1 : 0 < a := by first | omega | exact Nat.lt_of_lt_of_le (by decide) ha0
    exact Nat.lt_min.2 ⟨h1, by omega⟩
   rw [hm] at hcp hml hma
   have hp := put_cells wr.drew w.heap.size a (List.replicate m (.int .i64 6)) (sixes 5 a) 3 hN (by rw [sixes_len ha2, List.length_replicate]; omega)
   rw [List.length_replicate, sixes_put (by omega)] at hp
   have hb3 : Below w.heap.size w (wr.drew.setCells w.heap.size a (List.replicate m (.int .i64 6))) := HBr.out.drew.trans (setCells_below (Nat.le_refl _))
   have HC2 := Lib.hid hcp
   have HP := Lib.hid hp
   have HB3 := Lib.hid hb3
   have hne : ¬ 5 = a := by omega
   have hne2 : ¬ a = 5 := by omega
   have j0 : (0 : Int) ≤ (a : Int) := Int.natCast_nonneg _
   have j1 : (a : Int) ≤ 5 := by omega
   clear hcp hp hb3 hN hm ha0
   have HM0 := Lib.hid (And.intro hm0 (And.intro hml ha1))
   have hw9 : IntKind.i64.wrap ((a : Int) + (m : Int)) = ((a + m : Nat) : Int) := by rw [IntKind.wrap_i64]; omega
   go_wp2_with fail
   go_region_held3 (fun _ => True) (trivial) ((refine step_copy_run (by rfl) _ _ _ _ (by rfl) _ _ (by rfl) (by rfl) _ _ HC2.out ?_))
   go_wp2_with fail
   go_roundw
   case rel => exact ⟨a + m, by have := HM0.out; omega, by have := HM0.out; omega, by go_num, HP, HB3⟩
   case measure => have := HM0.out; simp only [intOf]; omega
  ·obtain rfl : a = 5 := by omega
   have HRow := Lib.hid (six_row (n := w.heap.size) (Nat.le_refl _) (by omega) HN.out)
   go_wp2_with fail
   go_ret
   exact ⟨_, rfl, HRow.out, HBr.out⟩
set_option maxRecDepth 100000 in
set_option maxHeartbeats 4000000 in
theorem rep_6 (B : Nat) (w : World) (hB : w.heap[B]? = some (.cells #[.int .i64 6] 3)) : Calls Tryz.prog 22 #[.slice (some ⟨B, 0, none⟩) 1 1, .int .i64 6] w fun e w' => ∃ v', e = .returned v' ∧ IntsR true w' (fun b => w.heap.size ≤ b) v' (List.replicate 6 6) ∧ Below w.heap.size w w' := by
 obtain ⟨q0, f0⟩ := blk hB
 have hlt : B < w.heap.size := (Array.getElem?_eq_some_iff.1 hB).1
 obtain ⟨W1, hW1⟩ : ∃ W1, w.alloc (.cells (sixes 6 0).toArray 3) = W1 := ⟨_, rfl⟩
 have hmk : (Instr.makeSlice 27 (.int .i64 6) (.int .i64 6)).run Tryz.prog w = .ok (.slice (some ⟨w.heap.size, 0, none⟩) 6 6) W1 := by
  have h := run_make_row' (P := Tryz.prog) 27 3 (.int .i64 0) 8 Tryz.underlying27 (by kernel_rfl) rfl .i64 .i64 6 (by omega) (by omega) w
  have e : madeCells #[Value.int .i64 0] 6 = (sixes 6 0).toArray := by kernel_rfl
  rw [← hW1, ← e]
  exact h
 have hb1 : Below w.heap.size w W1 := hW1 ▸ (Below.refl _ _).alloc (Nat.le_refl _) _
 have hN : W1.heap[w.heap.size]? = some (.cells (sixes 6 0).toArray 3) := hW1 ▸ heap_new _ _ rfl
 have hcp := copy_six W1 w.heap.size B 6 0 (Nat.min 1 6) 1 1 hN (Nat.zero_le _) rfl (fun j hj => by
  have : j = 0 := by have : Nat.min 1 6 ≤ 1 := Nat.min_le_left _ _; omega
  subst this
  rw [(blk (heap_below hb1 hB)).1 0]; rfl)
 have hp1 := put_cells W1 w.heap.size 0 (List.replicate (Nat.min 1 6) (.int .i64 6)) (sixes 6 0) 3 hN (by rw [sixes_len (Nat.zero_le _), List.length_replicate]; decide)
 rw [List.length_replicate, sixes_put (q := 6) (a := 0) (m := Nat.min 1 6) (by decide)] at hp1
 have hb2 : Below w.heap.size w (W1.setCells w.heap.size 0 (List.replicate (Nat.min 1 6) (.int .i64 6))) := hb1.trans (setCells_below (Nat.le_refl _))
 have HCP : Hid ((Builtin.copy_ #[27, 27] 3 #[.slice (some ⟨w.heap.size, 0, none⟩) 6 6, .slice (some ⟨B, 0, none⟩) 1 1]).run Tryz.prog W1 = .ok (.int .i64 ((Nat.min 1 6 : Nat) : Int)) (W1.setCells w.heap.size 0 (List.replicate (Nat.min 1 6) (.int .i64 6)))) := Lib.hid hcp
 obtain ⟨W2, hW2⟩ : ∃ W2, W1.setCells w.heap.size 0 (List.replicate (Nat.min 1 6) (.int .i64 6)) = W2 := ⟨_, rfl⟩
 rw [hW2] at HCP hp1 hb2
 have HP1 := Lib.hid hp1
 have HB2 := Lib.hid hb2
 clear hcp hp1 hb2 hW2 hN hb1 hW1 q0 f0 hB
 go_enter Tryz.func22, Tryz.ntmps22
 go_wp2_with (first
  | (go_at_call 40; refine (mul_6 _).mono ?_; rintro e w2 ⟨rfl, hw2⟩; obtain rfl := hw2.symm)
  | (refine wpList_copy_run _ rfl _ _ _ _ rfl _ _ rfl rfl _ _ HCP.out ?_))
 go_loopw [8] (fun n wr => ∃ a : Nat, Nat.min 1 6 ≤ a ∧ a ≤ 6 ∧ n = .int .i64 a ∧ Hid (wr.heap[w.heap.size]? = some (.cells (sixes 6 a).toArray 3)) ∧ Hid (Below w.heap.size w wr)) (fun n _ => 6 - (intOf n).toNat)
 case atStart => exact ⟨Nat.min 1 6, Nat.le_refl _, by decide, rfl, HP1, HB2⟩
 case round =>
  obtain ⟨a, ha1, ha2, rfl, HN, HBr⟩ := hrel
  by_cases hlt2 : a < 6
  ·have ha0 : Nat.min 1 6 ≤ a := ha1
   have hN := HN.out
   have hcp := copy_six wr.drew w.heap.size w.heap.size 6 a (Nat.min a (6 - a)) a 6 hN ha2 rfl (fun j hj => by
    have : Nat.min a (6 - a) ≤ a := Nat.min_le_left _ _
    rw [cell_of_heap (w := wr.drew) (B := w.heap.size) hN]
    simp only [List.getElem?_toArray]
    exact sixes_get (by omega))
   have hml : Nat.min a (6 - a) ≤ 6 - a := Nat.min_le_right _ _
   have hma : Nat.min a (6 - a) ≤ a := Nat.min_le_left _ _
   obtain ⟨m, hm⟩ : ∃ m, Nat.min a (6 - a) = m := ⟨_, rfl⟩
   have hm0 : 0 < m := by
    rw [← hm]
    have h1 : 0 < a := by first | omega | exact Nat.lt_of_lt_of_le (by decide) ha0
    exact Nat.lt_min.2 ⟨h1, by omega⟩
   rw [hm] at hcp hml hma
   have hp := put_cells wr.drew w.heap.size a (List.replicate m (.int .i64 6)) (sixes 6 a) 3 hN (by rw [sixes_len ha2, List.length_replicate]; omega)
   rw [List.length_replicate, sixes_put (by omega)] at hp
   have hb3 : Below w.heap.size w (wr.drew.setCells w.heap.size a (List.replicate m (.int .i64 6))) := HBr.out.drew.trans (setCells_below (Nat.le_refl _))
   have HC2 := Lib.hid hcp
   have HP := Lib.hid hp
   have HB3 := Lib.hid hb3
   have hne : ¬ 6 = a := by omega
   have hne2 : ¬ a = 6 := by omega
   have j0 : (0 : Int) ≤ (a : Int) := Int.natCast_nonneg _
   have j1 : (a : Int) ≤ 6 := by omega
   clear hcp hp hb3 hN hm ha0
   have HM0 := Lib.hid (And.intro hm0 (And.intro hml ha1))
   have hw9 : IntKind.i64.wrap ((a : Int) + (m : Int)) = ((a + m : Nat) : Int) := by rw [IntKind.wrap_i64]; omega
   go_wp2_with fail
   go_region_held3 (fun _ => True) (trivial) ((refine step_copy_run (by rfl) _ _ _ _ (by rfl) _ _ (by rfl) (by rfl) _ _ HC2.out ?_))
   go_wp2_with fail
   go_roundw
   case rel => exact ⟨a + m, by have := HM0.out; omega, by have := HM0.out; omega, by go_num, HP, HB3⟩
   case measure => have := HM0.out; simp only [intOf]; omega
  ·obtain rfl : a = 6 := by omega
   have HRow := Lib.hid (six_row (n := w.heap.size) (Nat.le_refl _) (by omega) HN.out)
   go_wp2_with fail
   go_ret
   exact ⟨_, rfl, HRow.out, HBr.out⟩
theorem rep_any (q : Nat) (hq : q ≤ 6) (B : Nat) (w : World) (hB : w.heap[B]? = some (.cells #[.int .i64 6] 3)) : Calls Tryz.prog 22 #[.slice (some ⟨B, 0, none⟩) 1 1, .int .i64 q] w fun e w' => ∃ v', e = .returned v' ∧ IntsR true w' (fun b => w.heap.size ≤ b) v' (List.replicate q 6) ∧ Below w.heap.size w w' := by
 match q, hq with
 | 0, _ => exact rep_0 B w hB
 | 1, _ => exact rep_1 B w hB
 | 2, _ => exact rep_2 B w hB
 | 3, _ => exact rep_3 B w hB
 | 4, _ => exact rep_4 B w hB
 | 5, _ => exact rep_5 B w hB
 | 6, _ => exact rep_6 B w hB
end Go.Proofs.YteognfhemmogpaaGreatDoor
namespace Go.Proofs.YteognfhemmogpaaGreatDoor
open Go.RowKit
open Go.Proofs.Qw
attribute [local go_sem ↓] Go.wp_at_zero Go.wp_at_succ
def tagW1 (k : Int) : Int := if k = 0 then 7 else 8
theorem oneV_tag (k : Int) : ∀ u ∈ [Value.int .i64 k], u.oneCell' = true := fun u hu => by simp at hu; subst hu; rfl
theorem src_tag (w : World) (r : Int) (c : Nat) {B : Nat} (hB : B = w.heap.size) : Src Tryz.prog 1 27 (.slice (some ⟨B, 0, none⟩) 1 c) 1 [.int .i64 r] (w.alloc (.cells #[.int .i64 r] 3)) := hB ▸ src_one rowInt w [.int .i64 r] rfl (oneV_tag r) c
theorem slice_any' {α : Type} {t : TypeId} {k : Nat} {R : Rd α} {own : Bool} {w : World} {S : Nat → Prop} {v : Value} {xs : List α} (h : SliceR t k R own w S v xs) : ∃ a n c, v = .slice a n c := by
 obtain ⟨a, c, e⟩ := h.slice
 exact ⟨a, _, c, e⟩
theorem way_eq (l : Lin) : wayL l = List.replicate (min l.quote.toNat 6) 6 ++ l.lists.map tagW1 := rfl
theorem way_most (l : Lin) : (wayL l).length ≤ 6 + l.lists.length := by rw [way_eq]; simp; omega
set_option maxRecDepth 100000 in
set_option maxHeartbeats 4000000 in
theorem way_any (l : Lin) (a : Value) (ca : Option Addr) (cn cc : Nat) (w w0 : World) (S : Nat → Prop) (ha : IntsR false w0 S a l.lists) (h0 : Below w0.heap.size w0 w) (hn : l.lists.length ≤ 1000000) :
  Calls Tryz.prog 10 #[linV l a (.slice ca cn cc)] w fun e w' => ∃ v', e = .returned v' ∧ IntsR true w' (fun b => w.heap.size ≤ b) v' (wayL l) ∧ Below w.heap.size w w' := by
 obtain ⟨la, lc, rfl, hlc, hlm, hlx⟩ := ints_shape ha
 have HX := Lib.hid hlx
 have HW0 := Lib.hid h0
 have HQ : Hid (min (max l.quote 0) 6 = ((min l.quote.toNat 6 : Nat) : Int)) := Lib.hid (by omega)
 have hq6 : min l.quote.toNat 6 ≤ 6 := Nat.min_le_right _ _
 obtain ⟨q, hqq⟩ : ∃ q, min l.quote.toNat 6 = q := ⟨_, rfl⟩
 have HWE := Lib.hid (way_eq l)
 rw [hqq] at HQ hq6 HWE
 obtain ⟨W1, hW1⟩ : ∃ W1, w.alloc (.cells #[.int .i64 l.quote, .slice la l.lists.length lc, .int .i64 l.kind, .slice ca cn cc] 31) = W1 := ⟨_, rfl⟩
 have hb1 : Below w.heap.size w W1 := hW1 ▸ (Below.refl _ _).alloc (Nat.le_refl _) _
 have hz1 : W1.heap.size = w.heap.size + 1 := by rw [← hW1]; simp
 have HB1 : Hid (W1.heap[w.heap.size]? = some (.cells #[.int .i64 l.quote, .slice la l.lists.length lc, .int .i64 l.kind, .slice ca cn cc] 31)) := Lib.hid (hW1 ▸ heap_new _ _ rfl)
 have HBL := Lib.hid hb1
 have HZ1 := Lib.hid hz1
 have HWW := Lib.hid hW1
 unfold maxLen at hlm
 clear ha h0 hlx hqq hb1 hz1 hW1
 unfold linV
 go_enter Tryz.func10, Tryz.ntmps10
 go_wp2_with (go_at_call 22; rw [HWW.out, HQ.out]; refine (rep_any q hq6 _ _ (heap_new _ _ HZ1.out.symm)).mono ?_; rintro e w3 ⟨v3, rfl, hv3, hb3⟩; obtain ⟨ra, rc, hre⟩ := hv3.slice; subst hre; have HV3 := Lib.hid hv3; have hb13 : Below W1.heap.size W1 w3 := below_from ((Below.refl _ _).alloc (Nat.le_refl _) _) hb3; have HB3 := Lib.hid hb13; obtain ⟨q3, g3⟩ := blk (heap_below hb13 HB1.out); clear hv3 hb3 hb13)
 go_loopw [3, 5, 6, 16] (fun o _ _ i wr => ∃ (k : Nat) (oa : Option Addr) (on oc : Nat), k ≤ l.lists.length ∧ i = .int .i64 k ∧ o = .slice oa on oc ∧ on = q + k ∧ Hid (IntsR true wr (fun b => W1.heap.size ≤ b) (.slice oa on oc) (List.replicate q 6 ++ (l.lists.take k).map tagW1)) ∧ Hid (Below W1.heap.size W1 wr)) (fun _ _ _ i _ => l.lists.length - (intOf i).toNat)
 case atStart =>
  refine ⟨0, ra, _, rc, Nat.zero_le _, rfl, rfl, by simp, Lib.hid ?_, HB3⟩
  have h := HV3.out
  rw [List.length_replicate] at h
  refine SliceR.stable (xs := List.replicate q 6 ++ (l.lists.take 0).map tagW1) (rdOf_stable _) ?_ (Keeps.refl _ _) (fun b h _ => h)
  rw [List.take_zero, List.map_nil, List.append_nil]
  refine h.stable (rdOf_stable _) (Keeps.refl _ _) (fun b h _ => ?_)
  have h : (W1.alloc (.cells #[.int .i64 6] 3)).heap.size ≤ b := h
  simp at h
  omega
 case round =>
  clear q3 g3
  obtain ⟨k, oa, on, oc, hk, rfl, rfl, hon, HO, HBr⟩ := hrel
  by_cases hlt : k < l.lists.length
  ·obtain ⟨x, hx, _⟩ := getOf l.lists k hlt
   obtain ⟨b, o, rfl, hz, c0⟩ := HX.out k x hx
   have hbz : b < W1.heap.size := Nat.lt_of_lt_of_le hz (Nat.le_trans HW0.out.size HBL.out.size)
   have c0 := (HBr.out.cell (p := ⟨b, o + k, none⟩) hbz).trans ((below_from HW0.out HBL.out |>.cell (p := ⟨b, o + k, none⟩) hz).trans c0)
   have HT := Lib.hid (by rw [take_some hx, List.map_append, ← List.append_assoc]; rfl : List.replicate q 6 ++ (l.lists.take (k + 1)).map tagW1 = (List.replicate q 6 ++ (l.lists.take k).map tagW1) ++ [tagW1 x])
   have hrl : (List.replicate q 6 ++ (l.lists.take k).map tagW1).length + 1 ≤ 100000000 := by simp; omega
   have HSX : Hid (∀ X, Below wr.heap.size wr X → IntsR true X (fun b => W1.heap.size ≤ b) (.slice oa on oc) (List.replicate q 6 ++ (l.lists.take k).map tagW1)) := Lib.hid fun X hX => HO.out.stable (rdOf_stable _) (.all hX) (fun _ h _ => h)
   have hrs := HBr.out.size
   have i0 : (0 : Int) ≤ (k : Int) := Int.natCast_nonneg _
   have i1 : (k : Int) < (l.lists.length : Int) := by omega
   generalize hrr : List.replicate q 6 ++ (l.lists.take k).map tagW1 = rr at *
   clear hx hrr
   by_cases hx0 : x = 0
   ·have hq0 : (x == 0) = true := by simp [hx0]
    have htg : tagW1 x = 7 := by unfold tagW1; rw [if_pos hx0]
    rw [htg] at HT
    clear htg hx0
    go_wp2_with (at_builtin; go_must (refine wpList_append_R _ rfl _ _ 27 27 rfl rowInt eltInt W1.heap.size (.slice oa on oc) _ (xs := rr) (ys := [7]) (news := [.int .i64 7]) rfl rfl (HSX.out _ (by go_grown)) (by simp; omega) (src_tag _ _ 1 (by simp)) (NewsR.one rfl rfl) hrl ?_); intro v' w8 hR8 hB8 _ _; rw [← HT.out] at hR8; obtain ⟨na, nn, nc, hne⟩ := slice_any' hR8; subst hne; have HR8 := Lib.hid hR8; have HB8 := Lib.hid hB8; clear hR8 hB8)
    go_roundw
    case rel =>
     refine ⟨k + 1, na, nn, nc, hlt, by go_num, rfl, ?_, HR8, Lib.hid (Below.trans (below_from HBr.out ?_) HB8.out)⟩
     ·have := HR8.out.slice
      obtain ⟨a', c', e⟩ := this
      cases e
      simp
      omega
     ·go_grown
    case measure => simp [intOf]; omega
   ·have hq0 : (x == 0) = false := by simp [hx0]
    have htg : tagW1 x = 8 := by unfold tagW1; rw [if_neg hx0]
    rw [htg] at HT
    clear htg hx0
    go_wp2_with (at_builtin; go_must (refine wpList_append_R _ rfl _ _ 27 27 rfl rowInt eltInt W1.heap.size (.slice oa on oc) _ (xs := rr) (ys := [8]) (news := [.int .i64 8]) rfl rfl (HSX.out _ (by go_grown)) (by simp; omega) (src_tag _ _ 1 (by simp)) (NewsR.one rfl rfl) hrl ?_); intro v' w8 hR8 hB8 _ _; rw [← HT.out] at hR8; obtain ⟨na, nn, nc, hne⟩ := slice_any' hR8; subst hne; have HR8 := Lib.hid hR8; have HB8 := Lib.hid hB8; clear hR8 hB8)
    go_roundw
    case rel =>
     refine ⟨k + 1, na, nn, nc, hlt, by go_num, rfl, ?_, HR8, Lib.hid (Below.trans (below_from HBr.out ?_) HB8.out)⟩
     ·have := HR8.out.slice
      obtain ⟨a', c', e⟩ := this
      cases e
      simp
      omega
     ·go_grown
    case measure => simp [intOf]; omega
  ·obtain rfl : k = l.lists.length := by omega
   rw [List.take_length, ← HWE.out] at HO
   go_wp2_with fail
   go_ret
   exact ⟨_, rfl, HO.out.stable (rdOf_stable _) (Keeps.refl _ _) (fun b h _ => Nat.le_trans HBL.out.size h), HBL.out.trans (HBr.out.mono HBL.out.size)⟩
end Go.Proofs.YteognfhemmogpaaGreatDoor
namespace Go.Proofs.Qw
open Go.RowKit
mutual
theorem findN_le : ∀ (n : Nod) (p : List Int) (i j : Nat), findN n p i = .inr j → j ≤ i
 | .mk _ _ _ ks, p, i, j, h => findK_le ks 0 p i j (by rw [findN] at h; exact h)
theorem findK_le : ∀ (ks : List Nod) (t : Nat) (p : List Int) (i j : Nat), findK ks t p i = .inr j → j ≤ i
 | [], t, p, i, j, h => by rw [findK_nil] at h; cases h; exact Nat.le_refl _
 | k :: ks, t, p, i, j, h => by
  rw [findK_cons] at h
  split at h
  ·cases i with
   | zero => cases h
   | succ i => have := findK_le ks _ _ i j h; omega
  ·cases hr : findN k (p ++ [(t : Int)]) i with
   | inl r => rw [hr] at h; cases h
   | inr i2 =>
    rw [hr] at h
    have h1 := findN_le k _ _ _ hr
    have h2 := findK_le ks _ _ _ _ h
    omega
end
end Go.Proofs.Qw
namespace Go.Proofs.YteognfhemmogpaaGreatDoor
open Go.RowKit
open Go.Proofs.Qw
attribute [local go_sem] Oper.semAt_some
theorem nods_shapeS {h : Nat} {w : World} {S : Nat → Prop} {v : Value} {d : List Nod} (hd : NodsR false h w S v d) :
  ∃ a c, v = .slice a d.length c ∧ d.length ≤ c ∧ c ≤ maxLen ∧ ∀ i l, d[i]? = some l → ∃ b o aa ac ka kc h', h = h' + 1 ∧ a = some ⟨b, o, none⟩ ∧ S b ∧ NodAt h' w S b (o + i * 4) l aa ac ka kc := by
 obtain ⟨a, c, rfl, hc, hm, hx⟩ := SliceR.shape hd
 refine ⟨a, c, rfl, hc, hm, fun i l hl => ?_⟩
 obtain ⟨b, o, vs, rfl, hz, hS, _, hR, he⟩ := hx i l hl
 match h, hR with
 | h' + 1, ⟨x, y, e, h1, h2⟩ =>
  subst e
  obtain ⟨aa, ac, rfl⟩ := h1.slice
  obtain ⟨ka, kc, rfl⟩ := h2.slice
  exact ⟨b, o, aa, ac, ka, kc, h', rfl, rfl, hS, hz, he 0 _ rfl, he 1 _ rfl, he 2 _ rfl, he 3 _ rfl, h1, h2⟩
theorem alloc_le {w : World} {o : Obj} {n : Nat} (h : (w.alloc o).heap.size ≤ n) : w.heap.size + 1 ≤ n := by
 simp only [World.alloc, Array.size_push] at h
 exact h
theorem drew_heapF (w : World) : w.drew.heap = w.heap := rfl
theorem But.setN {B : Nat} {a w : World} (h : But B a w) {b : Nat} (hb : a.heap.size ≤ b) (o : Nat) (v : Value) : But B a (w.setCell ⟨b, o, none⟩ v) :=
 ⟨h.os, h.tape, h.output, ⟨by have := h.size; simpa using this, fun d hd hz => by
  rw [heap_set, if_neg (by omega)]
  exact h.keeps.block d hd hz⟩⟩
theorem But.drew {B : Nat} {a w : World} (h : But B a w) : But B a w.drew := ⟨h.os, h.tape, h.output, h.keeps.drew⟩
theorem keeps4 {S : Nat → Prop} {w : World} {Z : Nat} (hS : ¬ S Z) (x y z v : Value) : Keeps S w ((((w.setCell ⟨Z, 0, none⟩ x).setCell ⟨Z, 1, none⟩ y).setCell ⟨Z, 2, none⟩ z).setCell ⟨Z, 3, none⟩ v).drew :=
 (((((Keeps.refl S w).set hS x).set hS y).set hS z).set hS v).drew
theorem keeps4a {S : Nat → Prop} {w : World} {Z : Nat} (hS : ¬ S Z) (x y z v : Value) (o : Obj) : Keeps S w (((((w.setCell ⟨Z, 0, none⟩ x).setCell ⟨Z, 1, none⟩ y).setCell ⟨Z, 2, none⟩ z).setCell ⟨Z, 3, none⟩ v).alloc o).drew :=
 ((((((Keeps.refl S w).set hS x).set hS y).set hS z).set hS v).alloc o).drew
theorem But.set4 {B : Nat} {a w : World} (h : But B a w) {Z : Nat} (hZ : a.heap.size ≤ Z) (x y z v : Value) : But B a ((((w.setCell ⟨Z, 0, none⟩ x).setCell ⟨Z, 1, none⟩ y).setCell ⟨Z, 2, none⟩ z).setCell ⟨Z, 3, none⟩ v).drew :=
 ((((h.setN hZ 0 x).setN hZ 1 y).setN hZ 2 z).setN hZ 3 v).drew
theorem results_tnt {fn : Func} {p s u : Tmp} (h : fn.results = #[.tmp s, .cell p 35, .tmp u]) (tmps : Array Value) (w : World) (B : Nat) (x y z v : Value) (hp : tmps.getD p undef = .pointer (some ⟨B, 0, none⟩)) (hB : w.heap[B]? = some (.cells #[x, y, z, v] 35)) :
  (results fn tmps).run Tryz.prog w = .ok (.tuple #[tmps.getD s undef, .agg #[x, y, z, v], tmps.getD u undef]) w := by
 have hp' : tmps[p]?.getD undef = .pointer (some ⟨B, 0, none⟩) := by simpa using hp
 have h1 := run_loadVar_row (P := Tryz.prog) w B 35 35 _ _ _ hB Tryz.underlying35 rfl (by kernel_rfl)
 simp [results, h, hp', asAddr, h1]
theorem two_nodF (w : World) (x1 x2 x3 x4 y1 y2 y3 y4 : Value) : ∃ W1, (w.alloc (.cells #[x1, x2, x3, x4] 35)).alloc (.cells #[y1, y2, y3, y4] 35) = W1 ∧ Below w.heap.size w W1 ∧ w.heap.size + 1 < W1.heap.size ∧ W1.heap[w.heap.size]? = some (.cells #[x1, x2, x3, x4] 35) ∧ W1.heap[w.heap.size + 1]? = some (.cells #[y1, y2, y3, y4] 35) :=
 ⟨_, rfl, ((Below.refl _ _).alloc (Nat.le_refl _) _).alloc (by simp) _, by simp, heap_old _ _ (heap_new _ _ rfl), heap_new _ _ (by simp)⟩
def LineOut (B h : Nat) (o : Int) (S : Nat → Prop) (n : Nat) (r : (List Int × Nod) ⊕ Nat) (e : Ending) (w' : World) : Prop := match r with
 | .inl (q, m) => ∃ qa qc ma mc ka kc, e = .returned (.tuple #[.slice qa q.length qc, .agg #[.int .i64 m.tag, .slice ma m.attrs.length mc, .string ⟨m.text.toArray⟩, .slice ka m.kids.length kc], .bool true]) ∧
   IntsR false w' (fun b => n ≤ b) (.slice qa q.length qc) q ∧ AttsR false w' S (.slice ma m.attrs.length mc) m.attrs ∧ NodsR false h w' S (.slice ka m.kids.length kc) m.kids ∧ ∃ j : Int, FinAt B j o w'
 | .inr j => e = .returned (.tuple #[.slice none 0 0, .agg #[.int .i64 0, .slice none 0 0, .string ⟨#[]⟩, .slice none 0 0], .bool false]) ∧ FinAt B j o w'
def LineAt (h : Nat) : Prop := ∀ (n : Nod) (a k pv : Value) (p : List Int) (i B : Nat) (o : Int) (w : World) (S : Nat → Prop), AttsR false w S a n.attrs → NodsR false h w S k n.kids → (∀ b, S b → b < w.heap.size ∧ b ≠ B) →
  IntsR false w (fun b => b ≠ B) pv p → p.length + h ≤ 1000 → i ≤ 1000000 → FinAt B i o w →
  Calls Tryz.prog 30 #[.pointer (some ⟨B, 0, none⟩), nodV n a k, pv] w fun e w' => But B w w' ∧ LineOut B h o S w.heap.size (findN n p i) e w'
set_option maxRecDepth 100000 in
set_option maxHeartbeats 4000000 in
theorem line_step (h : Nat) (ih : ∀ h', h = h' + 1 → LineAt h') : LineAt h := by
 intro n a kv pv p i B o w S hA hK hS hP hpl hi hF
 obtain ⟨la, lc, rfl⟩ := hA.slice
 obtain ⟨ka, kc, rfl, hkc, hkm, _⟩ := nods_shapeS hK
 obtain ⟨pa, pc, rfl⟩ := hP.slice
 have hBz : B < w.heap.size := (Array.getElem?_eq_some_iff.1 hF).1
 have HK := Lib.hid hK
 have HI := Lib.hid ih
 have HS := Lib.hid hS
 have HP := Lib.hid hP
 have HE := Lib.hid (findN_kids n p i)
 have hpl2 : p.length ≤ 1000 := by omega
 obtain ⟨W1, hW1, hB, hz, hB1, hB2⟩ := two_nodF w (.int .i64 n.tag) (.slice la n.attrs.length lc) (.string ⟨n.text.toArray⟩) (.slice ka n.kids.length kc) (.int .i64 0) (.slice none 0 0) (.string ⟨#[]⟩) (.slice none 0 0)
 have HZ := Lib.hid hz
 have HR := Lib.hid hB2
 have HB := Lib.hid hB
 have HF1 : Hid (FinAt B i o W1) := Lib.hid (hF.below hB)
 have HBz := Lib.hid hBz
 clear hA hK hS hP hF hz hB hkc ih hBz
 unfold maxLen at hkm
 obtain ⟨p1, f1⟩ := blk hB1
 clear hB1 hB2
 unfold nodV
 go_enter Tryz.func30, Tryz.ntmps30
 go_wp2_with fail
 go_loopw [18] (fun j wr => ∃ k c : Nat, k ≤ n.kids.length ∧ j = .int .i64 k ∧ c ≤ 1000000 ∧ Hid (findN n p i = findK (n.kids.drop k) k p c) ∧ Hid (But B W1 wr) ∧ Hid (FinAt B c o wr)) (fun j _ => n.kids.length - (intOf j).toNat)
 case atStart => exact ⟨0, i, Nat.zero_le _, rfl, hi, HE, Lib.hid (But.refl _ _), HF1⟩
 case round =>
  obtain ⟨k, c, hk, rfl, hc, HFk, HBt, HFr⟩ := hrel
  clear p1 f1
  by_cases hlt : k < n.kids.length
  ·obtain ⟨x, hl, _⟩ := getOf n.kids k hlt
   have hBw : But B w wr := (But.of HB.out).trans HBt.out
   obtain ⟨ka', kc', e', _, _, hx⟩ := nods_shapeS (nods_but HK.out (fun b h => (HS.out b h).2) hBw)
   cases e'
   obtain ⟨b, bo, xa, xc, ya, yc, h', rfl, rfl, hSb, hA⟩ := hx k x hl
   obtain ⟨hbz, c0, c1, c2, c3, hAx, hKx⟩ := hA
   have HAX := Lib.hid hAx
   have HKX := Lib.hid hKx
   have HBw := Lib.hid hBw
   have HCl : Hid (∀ W, Below wr.heap.size wr W → Calls Tryz.prog 32 #[.slice pa p.length pc] W fun e w' => ∃ va vc, e = .returned (.slice va p.length vc) ∧ IntsR true w' (fun b => W.heap.size ≤ b) (.slice va p.length vc) p ∧ Below W.heap.size W w') := Lib.hid fun W hW => by
    refine (cloneInt_any _ p false W wr _ (HP.out.stable (rdOf_stable _) (hBw.to fun _ h => h) (fun _ h _ => h)) hW (by omega)).mono ?_
    rintro e w' ⟨v', h1, h2, h3⟩
    obtain ⟨va, vc, rfl⟩ := h2.slice
    exact ⟨va, vc, h1, h2, h3⟩
   have HC : Hid (∀ W, Calls Tryz.prog 37 #[.int .i64 x.tag] W fun e w' => e = .returned (.int .i64 (tagC x.tag)) ∧ Below W.heap.size W w') := Lib.hid fun W => tagsClass_any x.tag W
   obtain ⟨pk, hpk⟩ : ∃ pk, p ++ [(k : Int)] = pk := ⟨_, rfl⟩
   have HPK := Lib.hid hpk
   have HPL : Hid (pk.length = p.length + 1) := Lib.hid (by rw [← hpk]; simp)
   have HW : Hid (∀ W qa qc, Below wr.heap.size wr W → IntsR false W (fun b => b ≠ B) (.slice qa pk.length qc) pk → Calls Tryz.prog 30 #[.pointer (some ⟨B, 0, none⟩), .agg #[.int .i64 x.tag, .slice xa x.attrs.length xc, .string ⟨x.text.toArray⟩, .slice ya x.kids.length yc], .slice qa pk.length qc] W fun e w' => But B W w' ∧ LineOut B h' o S W.heap.size (findN x pk c) e w') :=
    Lib.hid fun W qa qc hW hq => HI.out h' rfl x _ _ _ pk c B o W S (HAX.out.below (rdOf_stable _) hW) (HKX.out.below (rdNod_stable _ _) hW) (fun b hb => ⟨Nat.lt_of_lt_of_le (HS.out b hb).1 (Nat.le_trans HBw.out.size hW.size), (HS.out b hb).2⟩) hq (by have := HPL.out; omega) hc (HFr.out.below hW)
   have HX : Hid (n.kids[k]? = some x) := Lib.hid hl
   have hwz : w.heap.size + 1 < wr.heap.size := Nat.lt_of_lt_of_le HZ.out HBt.out.size
   have hBz : B < w.heap.size := HBz.out
   have HRr : Hid (wr.heap[w.heap.size + 1]? = some (.cells #[.int .i64 0, .slice none 0 0, .string ⟨#[]⟩, .slice none 0 0] 35)) := Lib.hid (HBt.out.heap (by omega) HR.out)
   have hrl : p.length + [(k : Int)].length ≤ 100000000 := by simp; omega
   have i0 : (0 : Int) ≤ (k : Int) := Int.natCast_nonneg _
   have i1 : (k : Int) < (n.kids.length : Int) := by omega
   clear hpk hx hl hBw hAx hKx
   by_cases h3 : tagC x.tag = 3
   ·have h3b : (tagC x.tag == 3) = true := by simp [h3]
    have H3 := Lib.hid h3
    clear h3
    cases c with
    | zero =>
     have HO := Lib.hid (HFk.out.trans (line_hit HX.out p H3.out))
     have HFr : Hid (FinAt B 0 o wr) := Lib.hid HFr.out
     rw [HPK.out] at HO
     clear HFk HW hc
     go_wp2_with (first
      | (go_at_call 32; refine (HCl.out _ (by go_grown)).mono ?_; rintro e w2 ⟨va, vc, rfl, hv2, hb2⟩; have HV2 : Hid (IntsR true w2 (fun b => wr.heap.size + 1 ≤ b) (.slice va p.length vc) p) := Lib.hid (hv2.stable (rdOf_stable _) (Keeps.refl _ _) (fun b h _ => alloc_le h)); have hk2 := Lib.hid (heap_below hb2 (heap_new _ _ rfl)); have hz2 : wr.heap.size + 1 ≤ w2.heap.size := alloc_le hb2.size; have hx2 := Lib.hid (below_from ((Below.refl wr.heap.size wr).alloc (Nat.le_refl _) _) hb2); clear hv2 hb2)
      | (at_builtin; go_must (refine wpList_append_R _ rfl _ _ 27 27 rfl rowInt eltInt (wr.heap.size + 1) (.slice va p.length vc) _ (xs := p) (ys := [(k : Int)]) (news := [.int .i64 k]) rfl rfl (HV2.out.stable (rdOf_stable _) (.all ((Below.refl _ _).alloc (Nat.le_refl _) _)) (fun _ h _ => h)) (by simp; omega) (src_tag _ _ 1 (by simp)) (NewsR.one rfl rfl) hrl ?_); intro v8 w8 hR8 hB8 _ _; rw [HPK.out] at hR8; obtain ⟨na, nc, hne⟩ := hR8.slice; subst hne; have HR8 := Lib.hid hR8; have hx28 := Lib.hid (((Below.refl (wr.heap.size + 1) w2).alloc hz2 _).trans hB8); have hx8 := Lib.hid (hx2.out.trans (hx28.out.mono (by omega))); have hk8 := Lib.hid ((hx28.out.block _ (Nat.lt_succ_self _)).trans hk2.out); obtain ⟨q8, g8⟩ := blk hk8.out; clear hR8 hB8)
      | (go_at_call 37; refine (HC.out _).mono ?_; rintro e w9 ⟨rfl, hb9⟩; have hx9 := Lib.hid (below_from hx8.out hb9); have hk9 := Lib.hid (heap_below hb9 hk8.out); obtain ⟨q9, g9⟩ := blk hk9.out; have hf9 := Lib.hid (heap_below hx9.out HFr.out); obtain ⟨q3, g3⟩ := blk hf9.out; have hr9 := Lib.hid (heap_below hx9.out HRr.out); obtain ⟨q4, g4⟩ := blk hr9.out; have HR9 := Lib.hid (HR8.out.below (rdOf_stable _) hb9); have hz9 : wr.heap.size + 1 < w9.heap.size + 1 := Nat.succ_lt_succ (Nat.lt_of_lt_of_le (Nat.lt_of_succ_le hz2) (Nat.le_trans hx28.out.size hb9.size)); clear hb9))
     go_region
     go_wp2_with fail
     refine bodyPost_ret (results_tnt rfl _ _ (w.heap.size + 1) (.int .i64 x.tag) (.slice xa x.attrs.length xc) (.string ⟨x.text.toArray⟩) (.slice ya x.kids.length yc) rfl (by simp [heap_set, putIn, drew_heapF, hr9.out])) rfl ?_
     refine ⟨(HBw.out.trans (But.of hx9.out)).set4 (Nat.le_succ _) _ _ _ _, ?_⟩
     rw [HO.out]
     have hSz : ¬ S (w.heap.size + 1) := fun hs => by have := (HS.out _ hs).1; omega
     have hf := hf9.out
     have hfe : FinAt B 0 o ((((w9.setCell ⟨w.heap.size + 1, 0, none⟩ (.int .i64 x.tag)).setCell ⟨w.heap.size + 1, 1, none⟩ (.slice xa x.attrs.length xc)).setCell ⟨w.heap.size + 1, 2, none⟩ (.string ⟨x.text.toArray⟩)).setCell ⟨w.heap.size + 1, 3, none⟩ (.slice ya x.kids.length yc)).drew := by
      unfold FinAt
      rw [drew_heapF]
      simp [heap_set, hf, show ¬ (w.heap.size + 1 = B) by omega]
     exact ⟨na, nc, xa, xc, ya, yc, rfl, (HR9.out.read fun _ _ h => h).stable (rdOf_stable _) (keeps4 (by omega) _ _ _ _) (fun b h _ => by omega),
      HAX.out.stable (rdOf_stable _) ((Keeps.all hx9.out).trans (keeps4 hSz _ _ _ _)) (fun _ h _ => h), nods_mono' (Nat.le_succ _) (HKX.out.stable (rdNod_stable _ _) ((Keeps.all hx9.out).trans (keeps4 hSz _ _ _ _)) (fun _ h _ => h)), 0, hfe⟩
    | succ c =>
     have HO := Lib.hid (HFk.out.trans (line_skip HX.out p c H3.out))
     obtain ⟨d, hd⟩ : ∃ d : Int, d = ((c + 1 : Nat) : Int) := ⟨_, rfl⟩
     have HFr : Hid (FinAt B d o wr) := Lib.hid (hd ▸ HFr.out)
     have hd0 : (d == 0) = false := by simp; omega
     have hdw : IntKind.i64.wrap (d - 1) = (c : Int) := by rw [IntKind.wrap_i64]; omega
     clear HFk HW hd
     go_wp2_with (first
      | (go_at_call 32; refine (HCl.out _ (by go_grown)).mono ?_; rintro e w2 ⟨va, vc, rfl, hv2, hb2⟩; have HV2 : Hid (IntsR true w2 (fun b => wr.heap.size + 1 ≤ b) (.slice va p.length vc) p) := Lib.hid (hv2.stable (rdOf_stable _) (Keeps.refl _ _) (fun b h _ => alloc_le h)); have hk2 := Lib.hid (heap_below hb2 (heap_new _ _ rfl)); have hz2 : wr.heap.size + 1 ≤ w2.heap.size := alloc_le hb2.size; have hx2 := Lib.hid (below_from ((Below.refl wr.heap.size wr).alloc (Nat.le_refl _) _) hb2); clear hv2 hb2)
      | (at_builtin; go_must (refine wpList_append_R _ rfl _ _ 27 27 rfl rowInt eltInt (wr.heap.size + 1) (.slice va p.length vc) _ (xs := p) (ys := [(k : Int)]) (news := [.int .i64 k]) rfl rfl (HV2.out.stable (rdOf_stable _) (.all ((Below.refl _ _).alloc (Nat.le_refl _) _)) (fun _ h _ => h)) (by simp; omega) (src_tag _ _ 1 (by simp)) (NewsR.one rfl rfl) hrl ?_); intro v8 w8 hR8 hB8 _ _; rw [HPK.out] at hR8; obtain ⟨na, nc, hne⟩ := hR8.slice; subst hne; have HR8 := Lib.hid hR8; have hx28 := Lib.hid (((Below.refl (wr.heap.size + 1) w2).alloc hz2 _).trans hB8); have hx8 := Lib.hid (hx2.out.trans (hx28.out.mono (by omega))); have hk8 := Lib.hid ((hx28.out.block _ (Nat.lt_succ_self _)).trans hk2.out); obtain ⟨q8, g8⟩ := blk hk8.out; clear hR8 hB8)
      | (go_at_call 37; refine (HC.out _).mono ?_; rintro e w9 ⟨rfl, hb9⟩; have hx9 := Lib.hid (below_from hx8.out hb9); have hk9 := Lib.hid (heap_below hb9 hk8.out); obtain ⟨q9, g9⟩ := blk hk9.out; have hf9 := Lib.hid (heap_below hx9.out HFr.out); obtain ⟨q3, g3⟩ := blk hf9.out; have hr9 := Lib.hid (heap_below hx9.out HRr.out); obtain ⟨q4, g4⟩ := blk hr9.out; have HR9 := Lib.hid (HR8.out.below (rdOf_stable _) hb9); have hz9 : wr.heap.size + 1 < w9.heap.size + 1 := Nat.succ_lt_succ (Nat.lt_of_lt_of_le (Nat.lt_of_succ_le hz2) (Nat.le_trans hx28.out.size hb9.size)); clear hb9))
     go_roundw
     case rel => exact ⟨k + 1, c, hlt, by go_num, by omega, HO, Lib.hid ((HBt.out.trans (But.of (hx9.out))).set _ _), Lib.hid (by unfold FinAt; simp [heap_set, putIn, hf9.out])⟩
     case measure => simp [intOf]; omega
   ·have h3b : (tagC x.tag == 3) = false := by simp [h3]
    have H3 := Lib.hid h3
    clear h3
    cases hr : findN x pk c with
    | inl r =>
     obtain ⟨q, m⟩ := r
     have HO := Lib.hid (HFk.out.trans (line_in HX.out p c H3.out (HPK.out ▸ hr)))
     rw [hr] at HW
     clear HFk hr hc
     go_wp2_with (first
      | (go_at_call 32; refine (HCl.out _ (by go_grown)).mono ?_; rintro e w2 ⟨va, vc, rfl, hv2, hb2⟩; have HV2 : Hid (IntsR true w2 (fun b => wr.heap.size + 1 ≤ b) (.slice va p.length vc) p) := Lib.hid (hv2.stable (rdOf_stable _) (Keeps.refl _ _) (fun b h _ => alloc_le h)); have hk2 := Lib.hid (heap_below hb2 (heap_new _ _ rfl)); have hz2 : wr.heap.size + 1 ≤ w2.heap.size := alloc_le hb2.size; have hx2 := Lib.hid (below_from ((Below.refl wr.heap.size wr).alloc (Nat.le_refl _) _) hb2); clear hv2 hb2)
      | (at_builtin; go_must (refine wpList_append_R _ rfl _ _ 27 27 rfl rowInt eltInt (wr.heap.size + 1) (.slice va p.length vc) _ (xs := p) (ys := [(k : Int)]) (news := [.int .i64 k]) rfl rfl (HV2.out.stable (rdOf_stable _) (.all ((Below.refl _ _).alloc (Nat.le_refl _) _)) (fun _ h _ => h)) (by simp; omega) (src_tag _ _ 1 (by simp)) (NewsR.one rfl rfl) hrl ?_); intro v8 w8 hR8 hB8 _ _; rw [HPK.out] at hR8; obtain ⟨na, nc, hne⟩ := hR8.slice; subst hne; have HR8 := Lib.hid hR8; have hx28 := Lib.hid (((Below.refl (wr.heap.size + 1) w2).alloc hz2 _).trans hB8); have hx8 := Lib.hid (hx2.out.trans (hx28.out.mono (by omega))); have hk8 := Lib.hid ((hx28.out.block _ (Nat.lt_succ_self _)).trans hk2.out); obtain ⟨q8, g8⟩ := blk hk8.out; clear hR8 hB8)
      | (go_at_call 37; refine (HC.out _).mono ?_; rintro e w9 ⟨rfl, hb9⟩; have hx9 := Lib.hid (below_from hx8.out hb9); have hk9 := Lib.hid (heap_below hb9 hk8.out); obtain ⟨q9, g9⟩ := blk hk9.out; have hf9 := Lib.hid (heap_below hx9.out HFr.out); obtain ⟨q3, g3⟩ := blk hf9.out; have hr9 := Lib.hid (heap_below hx9.out HRr.out); obtain ⟨q4, g4⟩ := blk hr9.out; have HR9 := Lib.hid (HR8.out.below (rdOf_stable _) hb9); have hz9 : wr.heap.size + 1 < w9.heap.size + 1 := Nat.succ_lt_succ (Nat.lt_of_lt_of_le (Nat.lt_of_succ_le hz2) (Nat.le_trans hx28.out.size hb9.size)); clear hb9)
      | (go_at_call 30; (refine (HW.out _ _ _ hx9.out ((HR9.out.read fun _ _ h => h).stable (rdOf_stable _) (Keeps.refl _ _) (fun b h _ => by omega))).mono ?_; rintro e w10 ⟨hbt, qa, qc, ma, mc, mka, mkc, rfl, hq, hma, hmk, fj, hfj⟩; have HFJ := Lib.hid hfj; have HBT := Lib.hid hbt; have HQ := Lib.hid hq; have HMA := Lib.hid hma; have HMK := Lib.hid hmk; have hz10 : w.heap.size + 1 < w10.heap.size := Nat.lt_of_lt_of_le (Nat.lt_trans hwz (Nat.lt_of_succ_lt_succ hz9)) hbt.size; have hr10 := Lib.hid (hbt.heap (by omega) hr9.out); obtain ⟨q5, g5⟩ := blk hr10.out; have hne10 : ¬ (w.heap.size + 1 = w10.heap.size) := Nat.ne_of_lt hz10; clear hbt hq hma hmk hfj)))
     go_region
     go_wp2_with fail
     refine bodyPost_ret (results_tnt rfl _ _ (w.heap.size + 1) (.int .i64 m.tag) (.slice ma m.attrs.length mc) (.string ⟨m.text.toArray⟩) (.slice mka m.kids.length mkc) rfl (by rw [drew_heapF]; exact heap_old _ _ (by simp [heap_set, putIn, hr10.out]))) rfl ?_
     refine ⟨((((((((HBw.out.trans (But.of hx9.out)).trans HBT.out).setN (Nat.le_succ _) 0 _).setN (Nat.le_succ _) 1 _).setN (Nat.le_succ _) 2 _).setN (Nat.le_succ _) 3 _).alloc _).drew), ?_⟩
     rw [HO.out]
     have hSz : ¬ S (w.heap.size + 1) := fun hs => by have := (HS.out _ hs).1; omega
     have hf := HFJ.out
     unfold FinAt at hf
     have hfe : FinAt B fj o (((((w10.setCell ⟨w.heap.size + 1, 0, none⟩ (.int .i64 m.tag)).setCell ⟨w.heap.size + 1, 1, none⟩ (.slice ma m.attrs.length mc)).setCell ⟨w.heap.size + 1, 2, none⟩ (.string ⟨m.text.toArray⟩)).setCell ⟨w.heap.size + 1, 3, none⟩ (.slice mka m.kids.length mkc)).alloc (.cells #[.int .i64 m.tag, .slice ma m.attrs.length mc, .string ⟨m.text.toArray⟩, .slice mka m.kids.length mkc] 35)).drew := by
      unfold FinAt
      rw [drew_heapF]
      exact heap_old _ _ (by simp [heap_set, hf, show ¬ (w.heap.size + 1 = B) by omega])
     exact ⟨qa, qc, ma, mc, mka, mkc, rfl, HQ.out.stable (rdOf_stable _) (keeps4a (by omega) _ _ _ _ _) (fun b h _ => by omega),
      HMA.out.stable (rdOf_stable _) (keeps4a hSz _ _ _ _ _) (fun _ h _ => h), nods_mono' (Nat.le_succ _) (HMK.out.stable (rdNod_stable _ _) (keeps4a hSz _ _ _ _ _) (fun _ h _ => h)), fj, hfe⟩
    | inr c2 =>
     have hc2 := findN_le x pk c c2 hr
     have HO := Lib.hid (HFk.out.trans (line_past HX.out p c c2 H3.out (HPK.out ▸ hr)))
     rw [hr] at HW
     clear HFk hr
     go_wp2_with (first
      | (go_at_call 32; refine (HCl.out _ (by go_grown)).mono ?_; rintro e w2 ⟨va, vc, rfl, hv2, hb2⟩; have HV2 : Hid (IntsR true w2 (fun b => wr.heap.size + 1 ≤ b) (.slice va p.length vc) p) := Lib.hid (hv2.stable (rdOf_stable _) (Keeps.refl _ _) (fun b h _ => alloc_le h)); have hk2 := Lib.hid (heap_below hb2 (heap_new _ _ rfl)); have hz2 : wr.heap.size + 1 ≤ w2.heap.size := alloc_le hb2.size; have hx2 := Lib.hid (below_from ((Below.refl wr.heap.size wr).alloc (Nat.le_refl _) _) hb2); clear hv2 hb2)
      | (at_builtin; go_must (refine wpList_append_R _ rfl _ _ 27 27 rfl rowInt eltInt (wr.heap.size + 1) (.slice va p.length vc) _ (xs := p) (ys := [(k : Int)]) (news := [.int .i64 k]) rfl rfl (HV2.out.stable (rdOf_stable _) (.all ((Below.refl _ _).alloc (Nat.le_refl _) _)) (fun _ h _ => h)) (by simp; omega) (src_tag _ _ 1 (by simp)) (NewsR.one rfl rfl) hrl ?_); intro v8 w8 hR8 hB8 _ _; rw [HPK.out] at hR8; obtain ⟨na, nc, hne⟩ := hR8.slice; subst hne; have HR8 := Lib.hid hR8; have hx28 := Lib.hid (((Below.refl (wr.heap.size + 1) w2).alloc hz2 _).trans hB8); have hx8 := Lib.hid (hx2.out.trans (hx28.out.mono (by omega))); have hk8 := Lib.hid ((hx28.out.block _ (Nat.lt_succ_self _)).trans hk2.out); obtain ⟨q8, g8⟩ := blk hk8.out; clear hR8 hB8)
      | (go_at_call 37; refine (HC.out _).mono ?_; rintro e w9 ⟨rfl, hb9⟩; have hx9 := Lib.hid (below_from hx8.out hb9); have hk9 := Lib.hid (heap_below hb9 hk8.out); obtain ⟨q9, g9⟩ := blk hk9.out; have hf9 := Lib.hid (heap_below hx9.out HFr.out); obtain ⟨q3, g3⟩ := blk hf9.out; have hr9 := Lib.hid (heap_below hx9.out HRr.out); obtain ⟨q4, g4⟩ := blk hr9.out; have HR9 := Lib.hid (HR8.out.below (rdOf_stable _) hb9); have hz9 : wr.heap.size + 1 < w9.heap.size + 1 := Nat.succ_lt_succ (Nat.lt_of_lt_of_le (Nat.lt_of_succ_le hz2) (Nat.le_trans hx28.out.size hb9.size)); clear hb9)
      | (go_at_call 30; (refine (HW.out _ _ _ hx9.out ((HR9.out.read fun _ _ h => h).stable (rdOf_stable _) (Keeps.refl _ _) (fun b h _ => by omega))).mono ?_; rintro e w10 ⟨hbt, rfl, hfo⟩; have HBT := Lib.hid hbt; have HFO := Lib.hid hfo; clear hbt hfo)))
     go_roundw
     case rel => exact ⟨k + 1, c2, hlt, by go_num, by omega, HO, Lib.hid (((HBt.out.trans (But.of hx9.out)).trans HBT.out).alloc _), Lib.hid (heap_old _ _ HFO.out)⟩
     case measure => simp [intOf]; omega
  ·obtain rfl : k = n.kids.length := by omega
   have HO := Lib.hid (HFk.out.trans (line_end n.kids p c))
   have hwz : w.heap.size + 1 < wr.heap.size := Nat.lt_of_lt_of_le HZ.out HBt.out.size
   have hBz : B < w.heap.size := HBz.out
   have hRr : Hid (wr.heap[w.heap.size + 1]? = some (.cells #[.int .i64 0, .slice none 0 0, .string ⟨#[]⟩, .slice none 0 0] 35)) := Lib.hid (HBt.out.heap (by omega) HR.out)
   obtain ⟨q4, g4⟩ := blk hRr.out
   go_wp2_with fail
   refine bodyPost_ret (results_tnt rfl _ _ (w.heap.size + 1) (.int .i64 0) (.slice none 0 0) (.string ⟨#[]⟩) (.slice none 0 0) rfl (by simp [heap_set, putIn, hRr.out])) rfl ?_
   refine ⟨((((((But.of HB.out).trans HBt.out).setN (Nat.le_succ _) 0 _).setN (Nat.le_succ _) 1 _).setN (Nat.le_succ _) 2 _).setN (Nat.le_succ _) 3 _), ?_⟩
   rw [HO.out]
   have hf := HFr.out
   unfold FinAt at hf
   exact ⟨rfl, by unfold FinAt; simp [heap_set, putIn, hf, show ¬ (w.heap.size + 1 = B) by omega]⟩
theorem line_all : ∀ h, LineAt h
 | 0 => line_step 0 (fun _ e => by cases e)
 | h + 1 => line_step (h + 1) (fun h' e => by cases e; exact line_all h)
end Go.Proofs.YteognfhemmogpaaGreatDoor
namespace Go.Proofs.Qw
open Go.RowKit
mutual
def txtSz : Nod → Nat
 | .mk _ _ x ks => x.length + txtSzs ks
def txtSzs : List Nod → Nat
 | [] => 0
 | k :: ks => txtSz k + txtSzs ks
end
theorem txt_mem : ∀ {l : List Nod} {n : Nod}, n ∈ l → txtSz n ≤ txtSzs l
 | k :: ks, n, h => by
  rw [txtSzs]
  rcases List.mem_cons.1 h with rfl | h
  ·omega
  ·have := txt_mem h; omega
theorem txt_kids (n : Nod) : txtSz n = n.text.length + txtSzs n.kids := by cases n; rw [txtSz]; rfl
theorem txt_app (a b : List Nod) : txtSzs (a ++ b) = txtSzs a + txtSzs b := by
 induction a with
 | nil => simp [txtSzs]
 | cons x a ih => rw [List.cons_append, txtSzs, txtSzs, ih]; omega
theorem txt_flat {α : Type} (f : α → List Nod) (g : α → Nat) : ∀ l : List α, (∀ x ∈ l, txtSzs (f x) ≤ 4 * g x) → txtSzs (l.flatMap f) ≤ 4 * (l.map g).sum
 | [], _ => by simp [txtSzs]
 | x :: l, h => by
  rw [List.flatMap_cons, txt_app, List.map_cons, List.sum_cons]
  have h1 := h x (by simp)
  have h2 := txt_flat f g l (fun y hy => h y (by simp [hy]))
  omega
theorem enc_len (c : Int) : (Lib.encodeRune c).length ≤ 4 := by
 unfold Lib.encodeRune Lib.encodeRuneZ
 repeat' split
 all_goals simp
theorem txtL_len (l : List Int) : (txtL l).length ≤ 4 * l.length := by
 induction l with
 | nil => simp [txtL]
 | cons c l ih =>
  unfold txtL at *
  rw [List.flatMap_cons, List.length_append, List.length_cons]
  have := enc_len c
  omega
theorem gr_txt : ∀ (ks : List (Cel → Option Wr)) (l : List Cel), txtSzs (gr ks l) ≤ 4 * l.length
 | [], l => by
  unfold gr leavesN
  have h := parts_sum textR l
  have h1 := txt_flat (fun p : List Cel => [leafP p]) List.length (partsBy textR l) (fun p hp => by
   have hpos := List.length_pos_iff.2 (parts_ne _ l.length l (Nat.le_refl _) p hp)
   rw [txtSzs, txtSzs]
   unfold leafP
   split
   ·simp [brN, txtSz, txtSzs]
   ·unfold txtN
    rw [txtSz, txtSzs]
    have := txtL_len (p.map (·.r))
    rw [List.length_map] at this
    omega)
  have e : ∀ ps : List (List Cel), ps.flatMap (fun p => [leafP p]) = ps.map leafP := fun ps => by induction ps with | nil => rfl | cons a ps ih => rw [List.flatMap_cons, ih]; rfl
  rw [e, h] at h1
  exact h1
 | k :: ks, l => by
  unfold gr
  have h := parts_sum (fun a b => decide (k a = k b)) l
  have h1 := txt_flat (fun p : List Cel => wrapO (k (p.headD default)) (gr ks p)) List.length (partsBy (fun a b => decide (k a = k b)) l) (fun p hp => by
   have hg := gr_txt ks p
   cases k (p.headD default) with
   | none => exact hg
   | some w => simp only [wrapO]; rw [txtSzs, txtSz, txtSzs]; simp only [List.length_nil]; omega)
  rw [h] at h1
  exact h1
mutual
theorem leafF_le : ∀ (n : Nod) (p : List Int) (c d : Int), leafF n p c = .inr d → 1 ≤ c → 1 ≤ d ∧ d ≤ c
 | .mk _ _ _ ks, p, c, d, h, hc => leafK_le ks 0 p c d (by rw [leafF] at h; exact h) hc
theorem leafK_le : ∀ (ks : List Nod) (t : Nat) (p : List Int) (c d : Int), leafK ks t p c = .inr d → 1 ≤ c → 1 ≤ d ∧ d ≤ c
 | [], t, p, c, d, h, hc => by rw [leafK_nil] at h; cases h; omega
 | k :: ks, t, p, c, d, h, hc => by
  rw [leafK_cons] at h
  split at h
  ·split at h
   ·cases h
   ·have := leafK_le ks _ _ _ _ h (by omega)
    omega
  ·split at h
   ·cases hr : leafF k (p ++ [(t : Int)]) c with
    | inl r => rw [hr] at h; cases h
    | inr c2 =>
     rw [hr] at h
     have h1 := leafF_le k _ _ _ hr hc
     have h2 := leafK_le ks _ _ _ _ h h1.1
     omega
   ·split at h
    ·cases h
    ·have := leafK_le ks _ _ _ _ h (by omega)
     omega
end
end Go.Proofs.Qw
namespace Go.Proofs.YteognfhemmogpaaGreatDoor
open Go.RowKit
open Go.Proofs.Qw
attribute [local go_sem] Oper.semAt_some
theorem results_pt {fn : Func} {p u : Tmp} (h : fn.results = #[.cell p 45, .tmp u]) (tmps : Array Value) (w : World) (B : Nat) (x y : Value) (hp : tmps.getD p undef = .pointer (some ⟨B, 0, none⟩)) (hB : w.heap[B]? = some (.cells #[x, y] 45)) :
  (results fn tmps).run Tryz.prog w = .ok (.tuple #[.agg #[x, y], tmps.getD u undef]) w := by
 have hp' : tmps[p]?.getD undef = .pointer (some ⟨B, 0, none⟩) := by simpa using hp
 have h1 := run_loadVar_row (P := Tryz.prog) w B 45 45 _ _ _ hB Tryz.underlying45 rfl (by kernel_rfl)
 simp [results, h, hp', asAddr, h1]
theorem node_point (w : World) (x1 x2 x3 x4 y1 y2 : Value) : ∃ W1, (w.alloc (.cells #[x1, x2, x3, x4] 35)).alloc (.cells #[y1, y2] 45) = W1 ∧ Below w.heap.size w W1 ∧ w.heap.size + 1 < W1.heap.size ∧ W1.heap[w.heap.size]? = some (.cells #[x1, x2, x3, x4] 35) ∧ W1.heap[w.heap.size + 1]? = some (.cells #[y1, y2] 45) :=
 ⟨_, rfl, ((Below.refl _ _).alloc (Nat.le_refl _) _).alloc (by simp) _, by simp, heap_old _ _ (heap_new _ _ rfl), heap_new _ _ (by simp)⟩
theorem keeps2 {S : Nat → Prop} {w : World} {Z : Nat} (hS : ¬ S Z) (x y : Value) : Keeps S w ((w.setCell ⟨Z, 0, none⟩ x).setCell ⟨Z, 1, none⟩ y) :=
 ((Keeps.refl S w).set hS x).set hS y
def LeafOut (B : Nat) (i : Int) (S : Nat → Prop) (r : (List Int × Int) ⊕ Int) (e : Ending) (w' : World) : Prop := match r with
 | .inl (q, t) => ∃ qa qc, e = .returned (.tuple #[.agg #[.slice qa q.length qc, .int .i64 t], .bool true]) ∧ IntsR false w' S (.slice qa q.length qc) q
 | .inr j => e = .returned (.tuple #[.agg #[.slice none 0 0, .int .i64 0], .bool false]) ∧ FinAt B i j w'
def LeafAt (h : Nat) : Prop := ∀ (n : Nod) (a k pv : Value) (p : List Int) (c : Int) (B : Nat) (i : Int) (w : World) (S P : Nat → Prop), AttsR false w S a n.attrs → NodsR false h w S k n.kids → (∀ b, S b → b < w.heap.size ∧ b ≠ B) →
  IntsR false w P pv p → (∀ b, P b → b < w.heap.size ∧ b ≠ B) → p.length + h ≤ 1000 → 1 ≤ c → c ≤ 1000000 → txtSz n ≤ 1000000 → FinAt B i c w →
  Calls Tryz.prog 31 #[.pointer (some ⟨B, 0, none⟩), nodV n a k, pv] w fun e w' => But B w w' ∧ LeafOut B i (fun b => P b ∨ w.heap.size ≤ b) (leafF n p c) e w'
set_option maxRecDepth 100000 in
set_option maxHeartbeats 4000000 in
theorem leaf_step (h : Nat) (ih : ∀ h', h = h' + 1 → LeafAt h') : LeafAt h := by
 intro n a kv pv p c0 B i w S P hA hK hS hP hPb hpl hc1 hc2 htx hF
 obtain ⟨la, lc, rfl⟩ := hA.slice
 obtain ⟨ka, kc, rfl, hkc, hkm, _⟩ := nods_shapeS hK
 obtain ⟨pa, pc, rfl⟩ := hP.slice
 have hBz : B < w.heap.size := (Array.getElem?_eq_some_iff.1 hF).1
 have HK := Lib.hid hK
 have HI := Lib.hid ih
 have HS := Lib.hid hS
 have HP := Lib.hid hP
 have HPb := Lib.hid hPb
 have HE := Lib.hid (leafF_kids n p c0)
 have HTx := Lib.hid htx
 have hpl2 : p.length ≤ 1000 := by omega
 obtain ⟨W1, hW1, hB, hz, hB1, hB2⟩ := node_point w (.int .i64 n.tag) (.slice la n.attrs.length lc) (.string ⟨n.text.toArray⟩) (.slice ka n.kids.length kc) (.slice none 0 0) (.int .i64 0)
 have HZ := Lib.hid hz
 have HR := Lib.hid hB2
 have HB := Lib.hid hB
 have HF1 : Hid (FinAt B i c0 W1) := Lib.hid (hF.below hB)
 have HBz := Lib.hid hBz
 clear hA hK hS hP hF hz hB hkc ih hBz hPb htx
 unfold maxLen at hkm
 obtain ⟨p1, f1⟩ := blk hB1
 clear hB1 hB2
 unfold nodV
 go_enter Tryz.func31, Tryz.ntmps31
 go_wp2_with fail
 go_loopw [17] (fun j wr => ∃ (k : Nat) (c : Int), k ≤ n.kids.length ∧ j = .int .i64 k ∧ 1 ≤ c ∧ c ≤ 1000000 ∧ Hid (leafF n p c0 = leafK (n.kids.drop k) k p c) ∧ Hid (But B W1 wr) ∧ Hid (FinAt B i c wr)) (fun j _ => n.kids.length - (intOf j).toNat)
 case atStart => exact ⟨0, c0, Nat.zero_le _, rfl, hc1, hc2, HE, Lib.hid (But.refl _ _), HF1⟩
 case round =>
  obtain ⟨k, c, hk, rfl, hc1, hc2, HFk, HBt, HFr⟩ := hrel
  clear p1 f1
  by_cases hlt : k < n.kids.length
  ·obtain ⟨x, hl, _⟩ := getOf n.kids k hlt
   have hBw : But B w wr := (But.of HB.out).trans HBt.out
   obtain ⟨ka', kc', e', _, _, hx⟩ := nods_shapeS (nods_but HK.out (fun b h => (HS.out b h).2) hBw)
   cases e'
   obtain ⟨b, bo, xa, xc, ya, yc, h', rfl, rfl, hSb, hA⟩ := hx k x hl
   obtain ⟨hbz, c0, c1, c2, c3, hAx, hKx⟩ := hA
   have HAX := Lib.hid hAx
   have HKX := Lib.hid hKx
   have HBw := Lib.hid hBw
   have hxt : txtSz x ≤ 1000000 := by
    have h1 := txt_mem (List.mem_of_getElem? hl)
    have h2 := HTx.out
    rw [txt_kids] at h2
    omega
   have hxs : x.text.length ≤ 1000000 := by rw [txt_kids] at hxt; omega
   have HCl : Hid (∀ W, Below wr.heap.size wr W → Calls Tryz.prog 32 #[.slice pa p.length pc] W fun e w' => ∃ va vc, e = .returned (.slice va p.length vc) ∧ IntsR true w' (fun b => W.heap.size ≤ b) (.slice va p.length vc) p ∧ Below W.heap.size W w') := Lib.hid fun W hW => by
    refine (cloneInt_any _ p false W wr _ (HP.out.stable (rdOf_stable _) (hBw.to fun b h => (HPb.out b h).2) (fun _ h _ => h)) hW (by omega)).mono ?_
    rintro e w' ⟨v', h1, h2, h3⟩
    obtain ⟨va, vc, rfl⟩ := h2.slice
    exact ⟨va, vc, h1, h2, h3⟩
   obtain ⟨sz, hsz⟩ : ∃ sz : Nat, (runesB ⟨x.text.toArray⟩).length = sz := ⟨_, rfl⟩
   have HC : Hid (∀ W, Calls Tryz.prog 56 #[.string ⟨x.text.toArray⟩] W fun e w' => e = .returned (.int .i64 sz) ∧ Below W.heap.size W w') := Lib.hid fun W => hsz ▸ charsCount_any ⟨x.text.toArray⟩ W (by show x.text.toArray.size ≤ _; simp; omega)
   have HSZ := Lib.hid hsz
   obtain ⟨pk, hpk⟩ : ∃ pk, p ++ [(k : Int)] = pk := ⟨_, rfl⟩
   have HPK := Lib.hid hpk
   have HPL : Hid (pk.length = p.length + 1) := Lib.hid (by rw [← hpk]; simp)
   have HW : Hid (∀ W qa qc (P' : Nat → Prop), Below wr.heap.size wr W → IntsR false W P' (.slice qa pk.length qc) pk → (∀ b, P' b → b < W.heap.size ∧ b ≠ B) → Calls Tryz.prog 31 #[.pointer (some ⟨B, 0, none⟩), .agg #[.int .i64 x.tag, .slice xa x.attrs.length xc, .string ⟨x.text.toArray⟩, .slice ya x.kids.length yc], .slice qa pk.length qc] W fun e w' => But B W w' ∧ LeafOut B i (fun b => P' b ∨ W.heap.size ≤ b) (leafF x pk c) e w') :=
    Lib.hid fun W qa qc P' hW hq hqb => HI.out h' rfl x _ _ _ pk c B i W S P' (HAX.out.below (rdOf_stable _) hW) (HKX.out.below (rdNod_stable _ _) hW) (fun b hb => ⟨Nat.lt_of_lt_of_le (HS.out b hb).1 (Nat.le_trans HBw.out.size hW.size), (HS.out b hb).2⟩) hq hqb (by have := HPL.out; omega) hc1 hc2 hxt (HFr.out.below hW)
   have HX : Hid (n.kids[k]? = some x) := Lib.hid hl
   have hwz : w.heap.size + 1 < wr.heap.size := Nat.lt_of_lt_of_le HZ.out HBt.out.size
   have hBz : B < w.heap.size := HBz.out
   have HRr : Hid (wr.heap[w.heap.size + 1]? = some (.cells #[.slice none 0 0, .int .i64 0] 45)) := Lib.hid (HBt.out.heap (by omega) HR.out)
   have hrl : p.length + [(k : Int)].length ≤ 100000000 := by simp; omega
   have i0 : (0 : Int) ≤ (k : Int) := Int.natCast_nonneg _
   have i1 : (k : Int) < (n.kids.length : Int) := by omega
   have hPz : ¬ P (w.heap.size + 1) := fun hs => by have := (HPb.out _ hs).1; omega
   have HPz := Lib.hid hPz
   clear hpk hx hl hBw hAx hKx hxt hxs hsz hPz
   by_cases h16 : x.tag = 16
   ·have hb16 : (x.tag == 16) = true := by simp [h16]
    have H16 := Lib.hid h16
    clear h16
    by_cases hc : c = 1
    ·subst hc
     have HO := Lib.hid (HFk.out.trans (leaf_brk HX.out p H16.out))
     have hkw : IntKind.i64.wrap ((k : Int) + 1) = (k : Int) + 1 := by rw [IntKind.wrap_i64]; omega
     clear HFk HW hc1 hc2
     go_wp2_with (first
      | (go_at_call 32; refine (HCl.out _ (by go_grown)).mono ?_; rintro e w2 ⟨va, vc, rfl, hv2, hb2⟩; have HV2 : Hid (IntsR true w2 (fun b => wr.heap.size + 1 ≤ b) (.slice va p.length vc) p) := Lib.hid (hv2.stable (rdOf_stable _) (Keeps.refl _ _) (fun b h _ => alloc_le h)); have hk2 := Lib.hid (heap_below hb2 (heap_new _ _ rfl)); have hz2 : wr.heap.size + 1 ≤ w2.heap.size := alloc_le hb2.size; have hx2 := Lib.hid (below_from ((Below.refl wr.heap.size wr).alloc (Nat.le_refl _) _) hb2); clear hv2 hb2)
      | (at_builtin; go_must (refine wpList_append_R _ rfl _ _ 27 27 rfl rowInt eltInt (wr.heap.size + 1) (.slice va p.length vc) _ (xs := p) (ys := [(k : Int)]) (news := [.int .i64 k]) rfl rfl (HV2.out.stable (rdOf_stable _) (.all ((Below.refl _ _).alloc (Nat.le_refl _) _)) (fun _ h _ => h)) (by simp; omega) (src_tag _ _ 1 (by simp)) (NewsR.one rfl rfl) hrl ?_); intro v8 w8 hR8 hB8 _ _; rw [HPK.out] at hR8; obtain ⟨na, nc, hne⟩ := hR8.slice; subst hne; have HR8 := Lib.hid hR8; have hx28 := Lib.hid (((Below.refl (wr.heap.size + 1) w2).alloc hz2 _).trans hB8); have hx8 := Lib.hid (hx2.out.trans (hx28.out.mono (by omega))); have hk8 := Lib.hid ((hx28.out.block _ (Nat.lt_succ_self _)).trans hk2.out); obtain ⟨q8, g8⟩ := blk hk8.out; clear hR8 hB8)
      | (go_at_call 56; refine (HC.out _).mono ?_; rintro e w9 ⟨rfl, hb9⟩; have hx9 := Lib.hid (below_from hx8.out hb9); have hk9 := Lib.hid (heap_below hb9 hk8.out); obtain ⟨q9, g9⟩ := blk hk9.out; have hf9 := Lib.hid (heap_below hx9.out HFr.out); obtain ⟨q3, g3⟩ := blk hf9.out; have hr9 := Lib.hid (heap_below hx9.out HRr.out); obtain ⟨q4, g4⟩ := blk hr9.out; have HR9 := Lib.hid (HR8.out.below (rdOf_stable _) hb9); have hz9 : wr.heap.size + 1 < w9.heap.size + 1 := Nat.succ_lt_succ (Nat.lt_of_lt_of_le (Nat.lt_of_succ_le hz2) (Nat.le_trans hx28.out.size hb9.size)); clear hb9))
     refine bodyPost_ret (results_pt rfl _ _ (w.heap.size + 1) (.slice pa p.length pc) (.int .i64 ((k : Int) + 1)) rfl (by simp [heap_set, putIn, hr9.out])) rfl ?_
     refine ⟨((HBw.out.trans (But.of hx9.out)).setN (Nat.le_succ _) 0 _).setN (Nat.le_succ _) 1 _, ?_⟩
     rw [HO.out]
     refine ⟨pa, pc, rfl, HP.out.stable (rdOf_stable _) (((HBw.out.trans (But.of hx9.out)).to fun b h => (HPb.out b h).2).trans (keeps2 HPz.out _ _)) (fun _ h _ => .inl h)⟩
    ·have HO := Lib.hid (HFk.out.trans (leaf_brk2 HX.out p c H16.out hc))
     have hc0 : (c == 1) = false := by simp [hc]
     have hcw : IntKind.i64.wrap (c - 1) = c - 1 := by rw [IntKind.wrap_i64]; omega
     have hcc : 1 ≤ c - 1 ∧ c - 1 ≤ 1000000 := by omega
     have HCC := Lib.hid hcc
     clear HFk HW hc hcc
     go_wp2_with (first
      | (go_at_call 32; refine (HCl.out _ (by go_grown)).mono ?_; rintro e w2 ⟨va, vc, rfl, hv2, hb2⟩; have HV2 : Hid (IntsR true w2 (fun b => wr.heap.size + 1 ≤ b) (.slice va p.length vc) p) := Lib.hid (hv2.stable (rdOf_stable _) (Keeps.refl _ _) (fun b h _ => alloc_le h)); have hk2 := Lib.hid (heap_below hb2 (heap_new _ _ rfl)); have hz2 : wr.heap.size + 1 ≤ w2.heap.size := alloc_le hb2.size; have hx2 := Lib.hid (below_from ((Below.refl wr.heap.size wr).alloc (Nat.le_refl _) _) hb2); clear hv2 hb2)
      | (at_builtin; go_must (refine wpList_append_R _ rfl _ _ 27 27 rfl rowInt eltInt (wr.heap.size + 1) (.slice va p.length vc) _ (xs := p) (ys := [(k : Int)]) (news := [.int .i64 k]) rfl rfl (HV2.out.stable (rdOf_stable _) (.all ((Below.refl _ _).alloc (Nat.le_refl _) _)) (fun _ h _ => h)) (by simp; omega) (src_tag _ _ 1 (by simp)) (NewsR.one rfl rfl) hrl ?_); intro v8 w8 hR8 hB8 _ _; rw [HPK.out] at hR8; obtain ⟨na, nc, hne⟩ := hR8.slice; subst hne; have HR8 := Lib.hid hR8; have hx28 := Lib.hid (((Below.refl (wr.heap.size + 1) w2).alloc hz2 _).trans hB8); have hx8 := Lib.hid (hx2.out.trans (hx28.out.mono (by omega))); have hk8 := Lib.hid ((hx28.out.block _ (Nat.lt_succ_self _)).trans hk2.out); obtain ⟨q8, g8⟩ := blk hk8.out; clear hR8 hB8)
      | (go_at_call 56; refine (HC.out _).mono ?_; rintro e w9 ⟨rfl, hb9⟩; have hx9 := Lib.hid (below_from hx8.out hb9); have hk9 := Lib.hid (heap_below hb9 hk8.out); obtain ⟨q9, g9⟩ := blk hk9.out; have hf9 := Lib.hid (heap_below hx9.out HFr.out); obtain ⟨q3, g3⟩ := blk hf9.out; have hr9 := Lib.hid (heap_below hx9.out HRr.out); obtain ⟨q4, g4⟩ := blk hr9.out; have HR9 := Lib.hid (HR8.out.below (rdOf_stable _) hb9); have hz9 : wr.heap.size + 1 < w9.heap.size + 1 := Nat.succ_lt_succ (Nat.lt_of_lt_of_le (Nat.lt_of_succ_le hz2) (Nat.le_trans hx28.out.size hb9.size)); clear hb9))
     go_roundw
     case rel => exact ⟨k + 1, _, hlt, by go_num, HCC.out.1, HCC.out.2, HO, Lib.hid ((HBt.out.trans (But.of hx9.out)).set _ _), Lib.hid (by unfold FinAt; simp [heap_set, putIn, hf9.out])⟩
     case measure => simp [intOf]; omega
   ·have hb16 : (x.tag == 16) = false := by simp [h16]
    have H16 := Lib.hid h16
    clear h16
    by_cases h0 : x.tag = 0
    ·have hb0 : (x.tag == 0) = true := by simp [h0]
     have hb02 : (x.tag != 0) = false := by simp [h0]
     have H0 := Lib.hid h0
     clear h0 HW
     by_cases hcs : c ≤ (sz : Int)
     ·have HO := Lib.hid (HFk.out.trans (leaf_text HX.out p c H0.out (by rw [HSZ.out]; exact hcs)))
      rw [HPK.out] at HO
      have hd : decide (c ≤ (sz : Int)) = true := decide_eq_true hcs
      clear HFk hcs
      go_wp2_with (first
       | (go_at_call 32; refine (HCl.out _ (by go_grown)).mono ?_; rintro e w2 ⟨va, vc, rfl, hv2, hb2⟩; have HV2 : Hid (IntsR true w2 (fun b => wr.heap.size + 1 ≤ b) (.slice va p.length vc) p) := Lib.hid (hv2.stable (rdOf_stable _) (Keeps.refl _ _) (fun b h _ => alloc_le h)); have hk2 := Lib.hid (heap_below hb2 (heap_new _ _ rfl)); have hz2 : wr.heap.size + 1 ≤ w2.heap.size := alloc_le hb2.size; have hx2 := Lib.hid (below_from ((Below.refl wr.heap.size wr).alloc (Nat.le_refl _) _) hb2); clear hv2 hb2)
       | (at_builtin; go_must (refine wpList_append_R _ rfl _ _ 27 27 rfl rowInt eltInt (wr.heap.size + 1) (.slice va p.length vc) _ (xs := p) (ys := [(k : Int)]) (news := [.int .i64 k]) rfl rfl (HV2.out.stable (rdOf_stable _) (.all ((Below.refl _ _).alloc (Nat.le_refl _) _)) (fun _ h _ => h)) (by simp; omega) (src_tag _ _ 1 (by simp)) (NewsR.one rfl rfl) hrl ?_); intro v8 w8 hR8 hB8 _ _; rw [HPK.out] at hR8; obtain ⟨na, nc, hne⟩ := hR8.slice; subst hne; have HR8 := Lib.hid hR8; have hx28 := Lib.hid (((Below.refl (wr.heap.size + 1) w2).alloc hz2 _).trans hB8); have hx8 := Lib.hid (hx2.out.trans (hx28.out.mono (by omega))); have hk8 := Lib.hid ((hx28.out.block _ (Nat.lt_succ_self _)).trans hk2.out); obtain ⟨q8, g8⟩ := blk hk8.out; clear hR8 hB8)
       | (go_at_call 56; refine (HC.out _).mono ?_; rintro e w9 ⟨rfl, hb9⟩; have hx9 := Lib.hid (below_from hx8.out hb9); have hk9 := Lib.hid (heap_below hb9 hk8.out); obtain ⟨q9, g9⟩ := blk hk9.out; have hf9 := Lib.hid (heap_below hx9.out HFr.out); obtain ⟨q3, g3⟩ := blk hf9.out; have hr9 := Lib.hid (heap_below hx9.out HRr.out); obtain ⟨q4, g4⟩ := blk hr9.out; have HR9 := Lib.hid (HR8.out.below (rdOf_stable _) hb9); have hz9 : wr.heap.size + 1 < w9.heap.size + 1 := Nat.succ_lt_succ (Nat.lt_of_lt_of_le (Nat.lt_of_succ_le hz2) (Nat.le_trans hx28.out.size hb9.size)); clear hb9))
      refine bodyPost_ret (results_pt rfl _ _ (w.heap.size + 1) (.slice na pk.length nc) (.int .i64 c) rfl (by simp [heap_set, putIn, hr9.out])) rfl ?_
      refine ⟨((HBw.out.trans (But.of hx9.out)).setN (Nat.le_succ _) 0 _).setN (Nat.le_succ _) 1 _, ?_⟩
      rw [HO.out]
      exact ⟨na, nc, rfl, (HR9.out.read fun _ _ h => h).stable (rdOf_stable _) (keeps2 (by omega) _ _) (fun b h _ => .inr (by omega))⟩
     ·have HO := Lib.hid (HFk.out.trans (leaf_text2 HX.out p c H0.out (by rw [HSZ.out]; exact hcs)))
      rw [HSZ.out] at HO
      have hd : decide (c ≤ (sz : Int)) = false := decide_eq_false hcs
      have hcw : IntKind.i64.wrap (c - (sz : Int)) = c - (sz : Int) := by rw [IntKind.wrap_i64]; omega
      have hcc : 1 ≤ c - (sz : Int) ∧ c - (sz : Int) ≤ 1000000 := by omega
      have HCC := Lib.hid hcc
      clear HFk hcs hcc
      go_wp2_with (first
       | (go_at_call 32; refine (HCl.out _ (by go_grown)).mono ?_; rintro e w2 ⟨va, vc, rfl, hv2, hb2⟩; have HV2 : Hid (IntsR true w2 (fun b => wr.heap.size + 1 ≤ b) (.slice va p.length vc) p) := Lib.hid (hv2.stable (rdOf_stable _) (Keeps.refl _ _) (fun b h _ => alloc_le h)); have hk2 := Lib.hid (heap_below hb2 (heap_new _ _ rfl)); have hz2 : wr.heap.size + 1 ≤ w2.heap.size := alloc_le hb2.size; have hx2 := Lib.hid (below_from ((Below.refl wr.heap.size wr).alloc (Nat.le_refl _) _) hb2); clear hv2 hb2)
       | (at_builtin; go_must (refine wpList_append_R _ rfl _ _ 27 27 rfl rowInt eltInt (wr.heap.size + 1) (.slice va p.length vc) _ (xs := p) (ys := [(k : Int)]) (news := [.int .i64 k]) rfl rfl (HV2.out.stable (rdOf_stable _) (.all ((Below.refl _ _).alloc (Nat.le_refl _) _)) (fun _ h _ => h)) (by simp; omega) (src_tag _ _ 1 (by simp)) (NewsR.one rfl rfl) hrl ?_); intro v8 w8 hR8 hB8 _ _; rw [HPK.out] at hR8; obtain ⟨na, nc, hne⟩ := hR8.slice; subst hne; have HR8 := Lib.hid hR8; have hx28 := Lib.hid (((Below.refl (wr.heap.size + 1) w2).alloc hz2 _).trans hB8); have hx8 := Lib.hid (hx2.out.trans (hx28.out.mono (by omega))); have hk8 := Lib.hid ((hx28.out.block _ (Nat.lt_succ_self _)).trans hk2.out); obtain ⟨q8, g8⟩ := blk hk8.out; clear hR8 hB8)
       | (go_at_call 56; refine (HC.out _).mono ?_; rintro e w9 ⟨rfl, hb9⟩; have hx9 := Lib.hid (below_from hx8.out hb9); have hk9 := Lib.hid (heap_below hb9 hk8.out); obtain ⟨q9, g9⟩ := blk hk9.out; have hf9 := Lib.hid (heap_below hx9.out HFr.out); obtain ⟨q3, g3⟩ := blk hf9.out; have hr9 := Lib.hid (heap_below hx9.out HRr.out); obtain ⟨q4, g4⟩ := blk hr9.out; have HR9 := Lib.hid (HR8.out.below (rdOf_stable _) hb9); have hz9 : wr.heap.size + 1 < w9.heap.size + 1 := Nat.succ_lt_succ (Nat.lt_of_lt_of_le (Nat.lt_of_succ_le hz2) (Nat.le_trans hx28.out.size hb9.size)); clear hb9))
      go_roundw
      case rel => exact ⟨k + 1, _, hlt, by go_num, HCC.out.1, HCC.out.2, HO, Lib.hid ((HBt.out.trans (But.of hx9.out)).set _ _), Lib.hid (by unfold FinAt; simp [heap_set, putIn, hf9.out])⟩
      case measure => simp [intOf]; omega
    ·have hb0 : (x.tag == 0) = false := by simp [h0]
     have hb02 : (x.tag != 0) = true := by simp [h0]
     have H0 := Lib.hid h0
     clear h0
     cases hr : leafF x pk c with
     | inl r =>
      obtain ⟨q, t⟩ := r
      have HO := Lib.hid (HFk.out.trans (leaf_in HX.out p c H16.out H0.out (HPK.out ▸ hr)))
      rw [hr] at HW
      clear HFk hr
      go_wp2_with (first
       | (go_at_call 32; refine (HCl.out _ (by go_grown)).mono ?_; rintro e w2 ⟨va, vc, rfl, hv2, hb2⟩; have HV2 : Hid (IntsR true w2 (fun b => wr.heap.size + 1 ≤ b) (.slice va p.length vc) p) := Lib.hid (hv2.stable (rdOf_stable _) (Keeps.refl _ _) (fun b h _ => alloc_le h)); have hk2 := Lib.hid (heap_below hb2 (heap_new _ _ rfl)); have hz2 : wr.heap.size + 1 ≤ w2.heap.size := alloc_le hb2.size; have hx2 := Lib.hid (below_from ((Below.refl wr.heap.size wr).alloc (Nat.le_refl _) _) hb2); clear hv2 hb2)
       | (at_builtin; go_must (refine wpList_append_R _ rfl _ _ 27 27 rfl rowInt eltInt (wr.heap.size + 1) (.slice va p.length vc) _ (xs := p) (ys := [(k : Int)]) (news := [.int .i64 k]) rfl rfl (HV2.out.stable (rdOf_stable _) (.all ((Below.refl _ _).alloc (Nat.le_refl _) _)) (fun _ h _ => h)) (by simp; omega) (src_tag _ _ 1 (by simp)) (NewsR.one rfl rfl) hrl ?_); intro v8 w8 hR8 hB8 _ _; rw [HPK.out] at hR8; obtain ⟨na, nc, hne⟩ := hR8.slice; subst hne; have HR8 := Lib.hid hR8; have hx28 := Lib.hid (((Below.refl (wr.heap.size + 1) w2).alloc hz2 _).trans hB8); have hx8 := Lib.hid (hx2.out.trans (hx28.out.mono (by omega))); have hk8 := Lib.hid ((hx28.out.block _ (Nat.lt_succ_self _)).trans hk2.out); obtain ⟨q8, g8⟩ := blk hk8.out; clear hR8 hB8)
       | (go_at_call 56; refine (HC.out _).mono ?_; rintro e w9 ⟨rfl, hb9⟩; have hx9 := Lib.hid (below_from hx8.out hb9); have hk9 := Lib.hid (heap_below hb9 hk8.out); obtain ⟨q9, g9⟩ := blk hk9.out; have hf9 := Lib.hid (heap_below hx9.out HFr.out); obtain ⟨q3, g3⟩ := blk hf9.out; have hr9 := Lib.hid (heap_below hx9.out HRr.out); obtain ⟨q4, g4⟩ := blk hr9.out; have HR9 := Lib.hid (HR8.out.below (rdOf_stable _) hb9); have hz9 : wr.heap.size + 1 < w9.heap.size + 1 := Nat.succ_lt_succ (Nat.lt_of_lt_of_le (Nat.lt_of_succ_le hz2) (Nat.le_trans hx28.out.size hb9.size)); clear hb9)
       | (go_at_call 31; refine (HW.out _ _ _ (fun b => wr.heap.size + 1 ≤ b ∧ b < w9.heap.size) hx9.out ((HR9.out.read fun _ _ h => h).stable (rdOf_stable _) (Keeps.refl _ _) (fun b h hz => ⟨h, hz⟩)) (fun b h => ⟨h.2, by omega⟩)).mono ?_; rintro e w10 ⟨hbt, qa, qc, rfl, hq⟩; have HBT := Lib.hid hbt; have HQ := Lib.hid hq; have hz10 : w.heap.size + 1 < w10.heap.size := Nat.lt_of_lt_of_le (Nat.lt_trans hwz (Nat.lt_of_succ_lt_succ hz9)) hbt.size; have hr10 := Lib.hid (hbt.heap (by omega) hr9.out); obtain ⟨q5, g5⟩ := blk hr10.out; have hne10 : ¬ (w.heap.size + 1 = w10.heap.size) := Nat.ne_of_lt hz10; clear hbt hq))
      have HQ1 : Hid (IntsR false w10 (fun b => wr.heap.size + 1 ≤ b) (.slice qa q.length qc) q) := Lib.hid (HQ.out.stable (rdOf_stable _) (Keeps.refl _ _) (fun b h _ => by rcases h with h | h; exact h.1; omega))
      refine bodyPost_ret (results_pt rfl _ _ (w.heap.size + 1) (.slice qa q.length qc) (.int .i64 t) rfl (heap_old _ _ (by simp [heap_set, putIn, hr10.out]))) rfl ?_
      refine ⟨((((HBw.out.trans (But.of hx9.out)).trans HBT.out).setN (Nat.le_succ _) 0 _).setN (Nat.le_succ _) 1 _).alloc _, ?_⟩
      rw [HO.out]
      exact ⟨qa, qc, rfl, HQ1.out.stable (rdOf_stable _) ((keeps2 (by omega) _ _).alloc _) (fun b h _ => .inr (by omega))⟩
     | inr c2 =>
      have hc2 := leafF_le x pk c c2 hr hc1
      have HO := Lib.hid (HFk.out.trans (leaf_past HX.out p c c2 H16.out H0.out (HPK.out ▸ hr)))
      have hcc : 1 ≤ c2 ∧ c2 ≤ 1000000 := by omega
      have HCC := Lib.hid hcc
      rw [hr] at HW
      clear HFk hr hc2 hcc
      go_wp2_with (first
       | (go_at_call 32; refine (HCl.out _ (by go_grown)).mono ?_; rintro e w2 ⟨va, vc, rfl, hv2, hb2⟩; have HV2 : Hid (IntsR true w2 (fun b => wr.heap.size + 1 ≤ b) (.slice va p.length vc) p) := Lib.hid (hv2.stable (rdOf_stable _) (Keeps.refl _ _) (fun b h _ => alloc_le h)); have hk2 := Lib.hid (heap_below hb2 (heap_new _ _ rfl)); have hz2 : wr.heap.size + 1 ≤ w2.heap.size := alloc_le hb2.size; have hx2 := Lib.hid (below_from ((Below.refl wr.heap.size wr).alloc (Nat.le_refl _) _) hb2); clear hv2 hb2)
       | (at_builtin; go_must (refine wpList_append_R _ rfl _ _ 27 27 rfl rowInt eltInt (wr.heap.size + 1) (.slice va p.length vc) _ (xs := p) (ys := [(k : Int)]) (news := [.int .i64 k]) rfl rfl (HV2.out.stable (rdOf_stable _) (.all ((Below.refl _ _).alloc (Nat.le_refl _) _)) (fun _ h _ => h)) (by simp; omega) (src_tag _ _ 1 (by simp)) (NewsR.one rfl rfl) hrl ?_); intro v8 w8 hR8 hB8 _ _; rw [HPK.out] at hR8; obtain ⟨na, nc, hne⟩ := hR8.slice; subst hne; have HR8 := Lib.hid hR8; have hx28 := Lib.hid (((Below.refl (wr.heap.size + 1) w2).alloc hz2 _).trans hB8); have hx8 := Lib.hid (hx2.out.trans (hx28.out.mono (by omega))); have hk8 := Lib.hid ((hx28.out.block _ (Nat.lt_succ_self _)).trans hk2.out); obtain ⟨q8, g8⟩ := blk hk8.out; clear hR8 hB8)
       | (go_at_call 56; refine (HC.out _).mono ?_; rintro e w9 ⟨rfl, hb9⟩; have hx9 := Lib.hid (below_from hx8.out hb9); have hk9 := Lib.hid (heap_below hb9 hk8.out); obtain ⟨q9, g9⟩ := blk hk9.out; have hf9 := Lib.hid (heap_below hx9.out HFr.out); obtain ⟨q3, g3⟩ := blk hf9.out; have hr9 := Lib.hid (heap_below hx9.out HRr.out); obtain ⟨q4, g4⟩ := blk hr9.out; have HR9 := Lib.hid (HR8.out.below (rdOf_stable _) hb9); have hz9 : wr.heap.size + 1 < w9.heap.size + 1 := Nat.succ_lt_succ (Nat.lt_of_lt_of_le (Nat.lt_of_succ_le hz2) (Nat.le_trans hx28.out.size hb9.size)); clear hb9)
       | (go_at_call 31; refine (HW.out _ _ _ (fun b => wr.heap.size + 1 ≤ b ∧ b < w9.heap.size) hx9.out ((HR9.out.read fun _ _ h => h).stable (rdOf_stable _) (Keeps.refl _ _) (fun b h hz => ⟨h, hz⟩)) (fun b h => ⟨h.2, by omega⟩)).mono ?_; rintro e w10 ⟨hbt, rfl, hfo⟩; have HBT := Lib.hid hbt; have HFO := Lib.hid hfo; clear hbt hfo))
      go_roundw
      case rel => exact ⟨k + 1, c2, hlt, by go_num, HCC.out.1, HCC.out.2, HO, Lib.hid (((HBt.out.trans (But.of hx9.out)).trans HBT.out).alloc _), Lib.hid (heap_old _ _ HFO.out)⟩
      case measure => simp [intOf]; omega
  ·obtain rfl : k = n.kids.length := by omega
   have HO := Lib.hid (HFk.out.trans (leaf_end n.kids p c))
   have hwz : w.heap.size + 1 < wr.heap.size := Nat.lt_of_lt_of_le HZ.out HBt.out.size
   have hBz : B < w.heap.size := HBz.out
   have hRr : Hid (wr.heap[w.heap.size + 1]? = some (.cells #[.slice none 0 0, .int .i64 0] 45)) := Lib.hid (HBt.out.heap (by omega) HR.out)
   obtain ⟨q4, g4⟩ := blk hRr.out
   go_wp2_with fail
   refine bodyPost_ret (results_pt rfl _ _ (w.heap.size + 1) (.slice none 0 0) (.int .i64 0) rfl (by simp [heap_set, putIn, hRr.out])) rfl ?_
   refine ⟨((((But.of HB.out).trans HBt.out).setN (Nat.le_succ _) 0 _).setN (Nat.le_succ _) 1 _), ?_⟩
   rw [HO.out]
   have hf := HFr.out
   unfold FinAt at hf
   exact ⟨rfl, by unfold FinAt; simp [heap_set, putIn, hf, show ¬ (w.heap.size + 1 = B) by omega]⟩
theorem leaf_all : ∀ h, LeafAt h
 | 0 => leaf_step 0 (fun _ e => by cases e)
 | h + 1 => leaf_step (h + 1) (fun h' e => by cases e; exact leaf_all h)
end Go.Proofs.YteognfhemmogpaaGreatDoor
