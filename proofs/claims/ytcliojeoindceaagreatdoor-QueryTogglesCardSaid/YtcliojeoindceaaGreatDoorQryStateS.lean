/- Commands: query.State; the law's long. -/
import Derived.Test.YtcliojeoindceaaGreatDoorQryPickS
import Derived.Test.YtcliojeoindceaaGreatDoorQuietWalkS
set_option linter.unusedVariables false
set_option linter.unusedSimpArgs false
set_option maxHeartbeats 8000000
namespace Go.Proofs.YtcliojeoindceaaGreatDoor
open Go.RowKit
open Go.Proofs.Qw
attribute [local go_sem] Oper.semAt_some
open _root_.Go.Lib renaming hid → zA
open _root_.Go.Act renaming put → zU
open _root_.Go.Proofs.Qw renaming quiet_val → qL
set_option maxRecDepth 100000 in
theorem qryState_any (v : Value) (s : St) (name : ByteArray) (w : World) (S : Nat → Prop) (h : LinsR w S v s.lines) (he : EnvT w) (hs : Small s.lines) (hf : Fits s.lines) (hn : name.size ≤ 1000000) :
  Calls Tryz.prog 17 #[stV v s, .string name] w fun e w' => e = .returned (.bool (stateQ s name.data.toList)) ∧ Below w.heap.size w w' := by
 obtain ⟨W1, hW1, hB, hz, k0⟩ := one_st w v s
 have HB : Hid (∀ W, Below W1.heap.size W1 W → W.heap[w.heap.size]? = some (.cells #[v, .int .i64 s.anc.line, .int .i64 s.anc.col, .int .i64 s.foc.line, .int .i64 s.foc.col, .int .i64 s.on, .int .i64 s.off] 26)) := zA fun W hW => heap_below hW k0
 have hs1 := hB.size
 have H1 := zA hB
 have hw0 : Below W1.heap.size W1 W1 := Below.refl _ _
 have HV : Hid (∀ W, Below W1.heap.size W1 W → LinsR W S v s.lines ∧ EnvT W) := zA fun W hW => ⟨(h.below (rdLin_stable _) hB).below (rdLin_stable _) hW, (he.below hB).below hW⟩
 have HLq : Hid (∀ W, Below W1.heap.size W1 W → Calls Tryz.prog 48 #[stV v s, .string name] W fun e w' => e = .returned (.tuple #[.bool (listQ s name.data.toList).1, .bool (listQ s name.data.toList).2]) ∧ Below W.heap.size W w') := zA fun W hW => qryListed_any v s name W S (HV.out W hW).1 (HV.out W hW).2 hs hf hn
 have HBt : Hid (∀ W, Below W1.heap.size W1 W → Calls Tryz.prog 50 #[.string name] W fun e w' => e = .returned (.int .i64 (bitN name.data.toList)) ∧ Below W.heap.size W w') := zA fun W hW => qryBit_any name W (HV.out W hW).2 hn
 have HHs : Hid (∀ W, Below W1.heap.size W1 W → Calls Tryz.prog 49 #[stV v s, .int .i64 (bitN name.data.toList)] W fun e w' => e = .returned (.bool (hasS s (bitN name.data.toList))) ∧ Below W.heap.size W w') := zA fun W hW => styHas_any v s _ W S (HV.out W hW).1 (HV.out W hW).2 hs hf
 have HR := zA (state_is s name.data.toList)
 obtain ⟨bt, hbt⟩ : ∃ x, bitN name.data.toList = x := ⟨_, rfl⟩
 obtain ⟨al, hal⟩ : ∃ x, (listQ s name.data.toList).1 = x := ⟨_, rfl⟩
 obtain ⟨so, hso⟩ : ∃ x, (listQ s name.data.toList).2 = x := ⟨_, rfl⟩
 obtain ⟨hx, hhx⟩ : ∃ x, hasS s (bitN name.data.toList) = x := ⟨_, rfl⟩
 rw [hhx, hbt] at HHs
 rw [hbt] at HBt
 rw [hal, hso] at HLq
 rw [HR.out, hal, hhx]
 obtain ⟨p0, f0⟩ := blk k0
 obtain ⟨va, vc, rfl⟩ := h.slice
 clear h he hs hf hB k0 hbt hal hso hhx HR
 cases al
 ·go_enter Tryz.func17, Tryz.ntmps17
  go_wp2_with (go_at_call 48; refine (HLq.out _ hw0).mono ?_; rintro e w2 ⟨rfl, hb2⟩)
  refine wp_region_grew w2.heap.size (by kernel_rfl) (by kernel_rfl) (QWk.out ?_)
  refine QWk.want (by kernel_rfl) (fun K hK => ?_); refine qL ?_ (fun W hW => ?_) (hK _ ?_); rotate_left 1; (focus (skip; go_simp; try rfl)); clear hK K; (try simp only [zU, qI, qX, qY])
  refine QWk.want (by kernel_rfl) (fun K hK => ?_); refine qL ?_ (fun W hW => ?_) (hK _ ?_); rotate_left 1; (focus (skip; go_simp; try rfl)); clear hK K; (try simp only [zU, qI, qX, qY])
  refine QWk.want (by kernel_rfl) (fun K hK => ?_); refine qL ?_ (fun W hW => ?_) (hK _ ?_); rotate_left 1; (focus (obtain ⟨q0, g0⟩ := blk (HB.out _ (below_from hb2 hW)); go_simp; try rfl)); clear hK K; (try simp only [zU, qI, qX, qY])
  refine QWk.want (by kernel_rfl) (fun K hK => ?_); refine qL ?_ (fun W hW => ?_) (hK _ ?_); rotate_left 1; (focus (skip; go_simp; try rfl)); clear hK K; (try simp only [zU, qI, qX, qY])
  refine QWk.want (by kernel_rfl) (fun K hK => ?_); refine quiet_calls (f := ?_) (args := ?_) ?_ (fun W hW => ?_) (fun W hW => ?_) (hK _ ?_); rotate_left 3; (focus (go_simp; constructor <;> rfl)); (focus (refine (HBt.out _ (below_from hb2 hW)).mono ?_; rintro e W2 ⟨rfl, hbW⟩; refine ⟨?_, below_from hW hbW⟩; rfl)); clear hK K; (try simp only [zU, qI, qX, qY])
  refine QWk.want (by kernel_rfl) (fun K hK => ?_); refine quiet_calls (f := ?_) (args := ?_) ?_ (fun W hW => ?_) (fun W hW => ?_) (hK _ ?_); rotate_left 3; (focus (go_simp; constructor <;> rfl)); (focus (refine (HHs.out _ (below_from hb2 hW)).mono ?_; rintro e W2 ⟨rfl, hbW⟩; refine ⟨?_, below_from hW hbW⟩; rfl)); clear hK K; (try simp only [zU, qI, qX, qY])
  refine QWk.want (by kernel_rfl) (fun K hK => ?_); refine qL ?_ (fun W hW => ?_) (hK _ ?_); rotate_left 1; (focus (skip; go_simp; try rfl)); clear hK K; (try simp only [zU, qI, qX, qY])
  refine QWk.want (by kernel_rfl) (fun K hK => ?_); refine qL ?_ (fun W hW => ?_) (hK _ ?_); rotate_left 1; (focus (skip; go_simp; try rfl)); clear hK K; (try simp only [zU, qI, qX, qY])
  refine QWk.mk (wpQuiet_nil (fun X6 hstX6 => ?_))
  go_wp2_with fail
  go_ret
  exact ⟨by simp, H1.out.trans ((below_from hb2 hstX6).mono hs1)⟩
 ·go_enter Tryz.func17, Tryz.ntmps17
  go_wp2_with (go_at_call 48; refine (HLq.out _ hw0).mono ?_; rintro e w2 ⟨rfl, hb2⟩)
  refine wp_region_grew w2.heap.size (by kernel_rfl) (by kernel_rfl) (QWk.out ?_)
  refine QWk.want (by kernel_rfl) (fun K hK => ?_); refine qL ?_ (fun W hW => ?_) (hK _ ?_); rotate_left 1; (focus (skip; go_simp; try rfl)); clear hK K; (try simp only [zU, qI, qX, qY])
  refine QWk.want (by kernel_rfl) (fun K hK => ?_); refine qL ?_ (fun W hW => ?_) (hK _ ?_); rotate_left 1; (focus (skip; go_simp; try rfl)); clear hK K; (try simp only [zU, qI, qX, qY])
  refine QWk.skip (by kernel_rfl) ?_; (try simp only [zU, qI, qX, qY])
  refine QWk.skip (by kernel_rfl) ?_; (try simp only [zU, qI, qX, qY])
  refine QWk.skip (by kernel_rfl) ?_; (try simp only [zU, qI, qX, qY])
  refine QWk.skip (by kernel_rfl) ?_; (try simp only [zU, qI, qX, qY])
  refine QWk.want (by kernel_rfl) (fun K hK => ?_); refine qL ?_ (fun W hW => ?_) (hK _ ?_); rotate_left 1; (focus (skip; go_simp; try rfl)); clear hK K; (try simp only [zU, qI, qX, qY])
  refine QWk.want (by kernel_rfl) (fun K hK => ?_); refine qL ?_ (fun W hW => ?_) (hK _ ?_); rotate_left 1; (focus (skip; go_simp; try rfl)); clear hK K; (try simp only [zU, qI, qX, qY])
  refine QWk.mk (wpQuiet_nil (fun X6 hstX6 => ?_))
  go_wp2_with fail
  go_ret
  exact ⟨by simp, H1.out.trans ((below_from hb2 hstX6).mono hs1)⟩
end Go.Proofs.YtcliojeoindceaaGreatDoor
