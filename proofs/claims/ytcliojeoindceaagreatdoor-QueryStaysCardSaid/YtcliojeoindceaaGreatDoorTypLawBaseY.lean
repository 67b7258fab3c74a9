/- Parts of the proof. -/
import Derived.Test.YtcliojeoindceaaGreatDoorQuietWalkY
import Derived.Test.YtcliojeoindceaaGreatDoorPartBaseY
import Derived.Test.YtcliojeoindceaaGreatDoorStSpanY
import Derived.Test.YtcliojeoindceaaGreatDoorQryFmtY
import Derived.Test.YtcliojeoindceaaGreatDoorStyToggleY
import Derived.Test.YtcliojeoindceaaGreatDoorKeys3Y
import Derived.Test.YtcliojeoindceaaGreatDoorLaidY
import Derived.Test.YtcliojeoindceaaGreatDoorRunesY
set_option linter.unusedVariables false
set_option linter.unusedSimpArgs false
set_option maxHeartbeats 8000000
namespace Go.Proofs.YtcliojeoindceaaGreatDoor
open Go.RowKit
open Go.Proofs.Qw
attribute [local go_sem] Oper.semAt_some
open _root_.Go.Lib renaming hid → zA
open _root_.Go.Act renaming put → zU
open _root_.Go.Proofs.Qw renaming kG → qL
set_option maxRecDepth 100000 in
theorem zIu (v : Value) (s : St) (name : ByteArray) (w : World) (S : Nat → Prop) (h : jD w S v s.lines) (he : EnvT w) (hs : Small s.lines) (hf : Fits s.lines) (hn : name.size ≤ 1000000) :
  Calls Tryz.prog 17 #[stV v s, .string name] w fun e w' => e = .returned (.bool (zAJ s name.data.toList)) ∧ Below w.heap.size w w' := by
 obtain ⟨W1, hW1, hB, hz, k0⟩ := vJ w v s;have HB : Hid (∀ W, Below W1.heap.size W1 W → W.heap[w.heap.size]? = some (.cells #[v, .int .i64 s.anc.line, .int .i64 s.anc.col, .int .i64 s.foc.line, .int .i64 s.foc.col, .int .i64 s.on, .int .i64 s.off] 26)) := zA fun W hW => jI hW k0;have hs1 := hB.size;have H1 := zA hB;have hw0 : Below W1.heap.size W1 W1 := Below.refl _ _;have HV : Hid (∀ W, Below W1.heap.size W1 W → jD W S v s.lines ∧ EnvT W) := zA fun W hW => ⟨(h.below (jW _) hB).below (jW _) hW, (he.below hB).below hW⟩;have HLq : Hid (∀ W, Below W1.heap.size W1 W → Calls Tryz.prog 48 #[stV v s, .string name] W fun e w' => e = .returned (.tuple #[.bool (xL s name.data.toList).1, .bool (xL s name.data.toList).2]) ∧ Below W.heap.size W w') := zA fun W hW => zEN v s name W S (HV.out W hW).1 (HV.out W hW).2 hs hf hn;have HBt : Hid (∀ W, Below W1.heap.size W1 W → Calls Tryz.prog 50 #[.string name] W fun e w' => e = .returned (.int .i64 (bitN name.data.toList)) ∧ Below W.heap.size W w') := zA fun W hW => zFF name W (HV.out W hW).2 hn;have HHs : Hid (∀ W, Below W1.heap.size W1 W → Calls Tryz.prog 49 #[stV v s, .int .i64 (bitN name.data.toList)] W fun e w' => e = .returned (.bool (hasS s (bitN name.data.toList))) ∧ Below W.heap.size W w') := zA fun W hW => zJY v s _ W S (HV.out W hW).1 (HV.out W hW).2 hs hf;have HR := zA (zMe s name.data.toList);obtain ⟨bt, hbt⟩ : ∃ x, bitN name.data.toList = x := ⟨_, rfl⟩;obtain ⟨al, hal⟩ : ∃ x, (xL s name.data.toList).1 = x := ⟨_, rfl⟩;obtain ⟨so, hso⟩ : ∃ x, (xL s name.data.toList).2 = x := ⟨_, rfl⟩;obtain ⟨hx, hhx⟩ : ∃ x, hasS s (bitN name.data.toList) = x := ⟨_, rfl⟩;rw [hhx, hbt] at HHs;rw [hbt] at HBt;rw [hal, hso] at HLq;rw [HR.out, hal, hhx];obtain ⟨p0, f0⟩ := blk k0;obtain ⟨va, vc, rfl⟩ := h.slice;clear h he hs hf hB k0 hbt hal hso hhx HR;cases al
 ·go_enter Tryz.func17, Tryz.ntmps17
  go_wp2_with (go_at_call 48; refine (HLq.out _ hw0).mono ?_; rintro e w2 ⟨rfl, hb2⟩);refine xN w2.heap.size zT zT (QWk.out ?_);refine QWk.want zT (fun K hK => ?_); refine qL ?_ (fun W hW => ?_) (hK _ ?_); rotate_left 1; (focus (skip; go_simp; try rfl)); clear hK K; (try simp only [zU, qI, qX, qY]);refine QWk.want zT (fun K hK => ?_); refine qL ?_ (fun W hW => ?_) (hK _ ?_); rotate_left 1; (focus (skip; go_simp; try rfl)); clear hK K; (try simp only [zU, qI, qX, qY]);refine QWk.want zT (fun K hK => ?_); refine qL ?_ (fun W hW => ?_) (hK _ ?_); rotate_left 1; (focus (obtain ⟨q0, g0⟩ := blk (HB.out _ (jG hb2 hW)); go_simp; try rfl)); clear hK K; (try simp only [zU, qI, qX, qY]);refine QWk.want zT (fun K hK => ?_); refine qL ?_ (fun W hW => ?_) (hK _ ?_); rotate_left 1; (focus (skip; go_simp; try rfl)); clear hK K; (try simp only [zU, qI, qX, qY]);refine QWk.want zT (fun K hK => ?_); refine uJ (f := ?_) (args := ?_) ?_ (fun W hW => ?_) (fun W hW => ?_) (hK _ ?_); rotate_left 3; (focus (go_simp; constructor <;> rfl)); (focus (refine (HBt.out _ (jG hb2 hW)).mono ?_; rintro e W2 ⟨rfl, hbW⟩; refine ⟨?_, jG hW hbW⟩; rfl)); clear hK K; (try simp only [zU, qI, qX, qY]);refine QWk.want zT (fun K hK => ?_); refine uJ (f := ?_) (args := ?_) ?_ (fun W hW => ?_) (fun W hW => ?_) (hK _ ?_); rotate_left 3; (focus (go_simp; constructor <;> rfl)); (focus (refine (HHs.out _ (jG hb2 hW)).mono ?_; rintro e W2 ⟨rfl, hbW⟩; refine ⟨?_, jG hW hbW⟩; rfl)); clear hK K; (try simp only [zU, qI, qX, qY]);refine QWk.want zT (fun K hK => ?_); refine qL ?_ (fun W hW => ?_) (hK _ ?_); rotate_left 1; (focus (skip; go_simp; try rfl)); clear hK K; (try simp only [zU, qI, qX, qY]);refine QWk.want zT (fun K hK => ?_); refine qL ?_ (fun W hW => ?_) (hK _ ?_); rotate_left 1; (focus (skip; go_simp; try rfl)); clear hK K; (try simp only [zU, qI, qX, qY]);refine QWk.mk (wpQuiet_nil (fun X6 hstX6 => ?_));go_wp2_with fail;go_ret;exact ⟨by simp, H1.out.trans ((jG hb2 hstX6).mono hs1)⟩
 ·go_enter Tryz.func17, Tryz.ntmps17
  go_wp2_with (go_at_call 48; refine (HLq.out _ hw0).mono ?_; rintro e w2 ⟨rfl, hb2⟩);refine xN w2.heap.size zT zT (QWk.out ?_);refine QWk.want zT (fun K hK => ?_); refine qL ?_ (fun W hW => ?_) (hK _ ?_); rotate_left 1; (focus (skip; go_simp; try rfl)); clear hK K; (try simp only [zU, qI, qX, qY]);refine QWk.want zT (fun K hK => ?_); refine qL ?_ (fun W hW => ?_) (hK _ ?_); rotate_left 1; (focus (skip; go_simp; try rfl)); clear hK K; (try simp only [zU, qI, qX, qY]);refine QWk.skip zT ?_; (try simp only [zU, qI, qX, qY]);refine QWk.skip zT ?_; (try simp only [zU, qI, qX, qY]);refine QWk.skip zT ?_; (try simp only [zU, qI, qX, qY]);refine QWk.skip zT ?_; (try simp only [zU, qI, qX, qY]);refine QWk.want zT (fun K hK => ?_); refine qL ?_ (fun W hW => ?_) (hK _ ?_); rotate_left 1; (focus (skip; go_simp; try rfl)); clear hK K; (try simp only [zU, qI, qX, qY]);refine QWk.want zT (fun K hK => ?_); refine qL ?_ (fun W hW => ?_) (hK _ ?_); rotate_left 1; (focus (skip; go_simp; try rfl)); clear hK K; (try simp only [zU, qI, qX, qY]);refine QWk.mk (wpQuiet_nil (fun X6 hstX6 => ?_));go_wp2_with fail;go_ret;exact ⟨by simp, H1.out.trans ((jG hb2 hstX6).mono hs1)⟩
end Go.Proofs.YtcliojeoindceaaGreatDoor
namespace Go.Proofs.Qw
open Go.RowKit Go.Proofs.YtcliojeoindceaaGreatDoor
def exL (b c : Int) (h k : List UInt8) : Doc := [⟨0, [], 0, [⟨97, b, h⟩, ⟨98, c, k⟩]⟩]
def exA : St := ⟨exL 0 1 [] [], ⟨0, 0⟩, ⟨0, 2⟩, 0, 0⟩
def exB : St := ⟨exL 1 1 [] [], ⟨0, 0⟩, ⟨0, 2⟩, 0, 0⟩
end Go.Proofs.Qw
namespace Go.Proofs.YtcliojeoindceaaGreatDoor
open Go.RowKit
open Go.Proofs.Qw
theorem on1f {w : World} {B : Nat} {cs : Array Value} {t : TypeId} (h : w.heap[B]? = some (.cells cs t)) : ∀ X k, (w.alloc X).frozen? ⟨B, k, none⟩ = false := fun X _ => xY (jK _ X h)
theorem vW (b c : Int) {h k : List UInt8} (h1 : h.length ≤ 10) (h2 : k.length ≤ 10) : Small (exL b c h k) ∧ Fits (exL b c h k) := by
 refine ⟨⟨by simp [jH, exL], by simp [exL], fun l hl x hx => ?_⟩, by simp [exL], fun l hl => ?_⟩
 ·simp only [exL, List.mem_singleton] at hl
  subst hl;simp only [List.mem_cons, List.mem_nil_iff, or_false] at hx;rcases hx with rfl | rfl
  ·show h.length ≤ _; omega
  ·show k.length ≤ _; omega
 ·simp only [exL, List.mem_singleton] at hl
  subst hl
  simp
theorem zND {w : World} {S : Nat → Prop} {v : Value} {b c : Int} {h k : List UInt8} (hv : DocR true w S v (exL b c h k)) :
  ∃ p o n la lc p2 o2 n2, v = .slice (some ⟨p, o, none⟩) 1 n ∧ p < w.heap.size ∧ p2 < w.heap.size ∧ w.cell? ⟨p, o + 1, none⟩ = some (.slice la 0 lc) ∧ w.cell? ⟨p, o + 3, none⟩ = some (.slice (some ⟨p2, o2, none⟩) 2 n2) ∧ w.cell? ⟨p2, o2 + 1, none⟩ = some (.int .i64 b) ∧ w.cell? ⟨p2, o2 + 3 + 1, none⟩ = some (.int .i64 c) ∧ n ≤ maxLen ∧ n2 ≤ maxLen ∧ 1 ≤ n ∧ 2 ≤ n2 := by
 obtain ⟨p, o, n, la, lc, ca, cc, rfl, hc, hm, hA, _, hC, _⟩ := zAq hv (i := 0) (l := ⟨0, [], 0, [⟨97, b, h⟩, ⟨98, c, k⟩]⟩) rfl;rw [Nat.zero_mul, Nat.add_zero] at hA;obtain ⟨hlt, _, a1, _, a3, _, _⟩ := hA;obtain ⟨a, n2, he, hn2, hm2, hx⟩ := uT (SliceR.read (fun _ _ h => h) hC);cases he;obtain ⟨p2, o2, rfl, hz2, _, c1, _⟩ := hx 0 _ rfl;obtain ⟨p3, o3, he3, _, _, d1, _⟩ := hx 1 _ rfl;cases he3;rw [Nat.zero_mul, Nat.add_zero] at c1;rw [Nat.one_mul] at d1;exact ⟨p, o, n, la, lc, p2, o2, _, rfl, hlt, hz2, a1, a3, c1, d1, hm, hm2, hc, hn2⟩
end Go.Proofs.YtcliojeoindceaaGreatDoor
namespace Go.Proofs.YtcliojeoindceaaGreatDoor
open Go.RowKit
open Go.Proofs.Qw
attribute [local go_sem] Oper.semAt_some
theorem zMr {w : World} {n B : Nat} {v : Value} {d : Doc} (h : DocR true w (fun b => n ≤ b) v d) (hB : B < n) : jD w (fun b => ¬ b = B) v d :=
 SliceR.stable (jW false) h.read (Keeps.refl _ _) (fun b hb _ => by have hb : n ≤ b := hb; omega)
theorem zGI {w W : World} {B : Nat} {v : Value} {d : Doc} (h : jD w (fun b => ¬ b = B) v d) (hk : ∀ k, k ≠ B → W.heap[k]? = w.heap[k]?) (hz : W.heap.size = w.heap.size) : jD W (fun b => ¬ b = B) v d :=
 SliceR.stable (jW false) h ⟨Nat.le_of_eq hz.symm, fun b hb _ => hk b hb⟩ (fun b h _ => h)
end Go.Proofs.YtcliojeoindceaaGreatDoor
