/- Parts of the proof. -/
import Derived.Test.YtjgeadoncanheaaGreatDoorStyTellsT
import Derived.Test.YtjgeadoncanheaaGreatDoorPartBaseT
import Derived.Test.YtjgeadoncanheaaGreatDoorRefOwnT
import Derived.Test.YtjgeadoncanheaaGreatDoorAttrWalkT
import Derived.Lib.QuoteLoop
import Derived.Lib.TrimUEq
import Derived.Test.YtjgeadoncanheaaGreatDoorDocSplitT
set_option linter.unusedVariables false
set_option linter.unusedSimpArgs false
set_option maxHeartbeats 8000000
namespace Go.Proofs.YtjgeadoncanheaaGreatDoor
open Go.RowKit
open Go.Proofs.Qw
attribute [local go_sem] Oper.semAt_some
open _root_.Go.Lib renaming hid → zA
open _root_.And renaming intro → zB
open _root_.Nat renaming le_refl → zC
open _root_.Go.RowKit.Below renaming refl → zE
open _root_.Go.BigFrame renaming wpQuiet_want → zI
open _root_.Go.Act renaming put → zU
open _root_.Go.Proofs.Tryz renaming prog → zV
open _root_.Go.Proofs.YtjgeadoncanheaaGreatDoor renaming jH → zW, jG → zX, jI → zY, jF → qF
open _root_.Go.Proofs.Qw renaming xB → qK
theorem zBb {w : World} {B : Nat} {cs : Array Value} {t : TypeId} (h : w.heap[B]? = some (.cells cs t)) : ∀ X Y k, ((w.alloc X).alloc Y).cell? ⟨B, k, none⟩ = cs[k]? := fun X Y _ => jS (zY _ Y (zY _ X h))
def BI (w : World) (Ba Bn Z : Nat) (pre : List Cel) (W : World) : Prop :=
 Boxed W Ba 3 (.int .i64 (andB pre)) ∧ Boxed W Bn 3 (.int .i64 pre.length) ∧ Below w.heap.size w W ∧ Z ≤ W.heap.size
theorem zMX {w : World} {Ba Bn Z B : Nat} (hB : w.heap.size ≤ B) : OwnFrom B (BI w Ba Bn Z) :=
 OwnFrom.and (Own.from (boxed_own _ _ (fun pre : List Cel => .int .i64 (andB pre))) _) (OwnFrom.and (Own.from (boxed_own _ _ (fun pre : List Cel => .int .i64 pre.length)) _) (OwnFrom.and (ownFrom_below (zC _) hB) (uV _ _)))
theorem zFS (d : List Cel) (t : Int) : (decide (0 < d.length) && decide (d.countP (fun x => bits .and .i64 x.bits t == t) = d.length)) = allL d t := by
 rw [Bool.eq_iff_iff];simp only [allL, Bool.and_eq_true, decide_eq_true_eq, List.all_eq_true, List.countP_eq_length]
theorem zFR (d : List Cel) (t : Int) : decide (0 < d.countP (fun x => bits .and .i64 x.bits t != 0)) = vJ d t := by
 rw [Bool.eq_iff_iff];simp only [vJ, decide_eq_true_eq, List.any_eq_true, List.countP_pos_iff]
theorem zGp (l : List Cel) (x : Cel) : andB (l ++ [x]) = bits .and .i64 (andB l) x.bits := by simp [andB]
set_option maxRecDepth 100000 in
theorem zEW (v : Value) (s : St) (w : World) (S : Nat → Prop) (h : jC w S v s.lines) (he : EnvT w) (hs : Small s.lines) (hf : Fits s.lines) :
  Calls zV 43 #[stV v s] w fun e w' => e = .returned (.int .i64 (xX s)) ∧ Below w.heap.size w w' := by
 obtain ⟨W1, hW1, hB, hz, k0⟩ := xC w v s;have HB : Hid (∀ W, Below W1.heap.size W1 W → W.heap[w.heap.size]? = some (.cells #[v, .int .i64 s.anc.line, .int .i64 s.anc.col, .int .i64 s.foc.line, .int .i64 s.foc.col, .int .i64 s.on, .int .i64 s.off] 26)) := zA fun W hW => zX hW k0;have hs1 := hB.size;have H1 := zA hB;have hw0 : Below W1.heap.size W1 W1 := zE _ _;have HV : Hid (∀ W, Below W1.heap.size W1 W → jC W S v s.lines) := zA fun W hW => h.below (jY _) (hB.trans (hW.mono hs1));have HE : Hid (∀ W, Below W1.heap.size W1 W → EnvT W) := zA fun W hW => (he.below hB).below hW;have HM : Hid (∀ W, Below W1.heap.size W1 W → Calls zV 27 #[stV v s] W fun e w' => e = .returned (.bool (mayS s)) ∧ Below W.heap.size W w') := zA fun W hW => uM v s W S (HV.out W hW) (HE.out W hW) hs;have HSp : Hid (∀ W, Below W1.heap.size W1 W → Calls zV 49 #[stV v s] W fun e w' => e = .returned (.tuple #[.agg #[.int .i64 (qV s).1.line, .int .i64 (qV s).1.col], .agg #[.int .i64 (qV s).2.line, .int .i64 (qV s).2.col]]) ∧ Below W.heap.size W w') := zA fun W _ => zAk v s W;have HO : Hid (∀ W, Below W1.heap.size W1 W → Calls zV 50 #[stV v s] W fun e w' => e = .returned (.bool (!decide (s.anc = s.foc))) ∧ Below W.heap.size W w') := zA fun W _ => zCb v s W;have HVF := zA (zB h (zB he (zB hs hf)));have hbs : xX s = if mayS s = true then (if s.anc = s.foc then bits .or .i64 (bits .andNot .i64 (kO (xL s) s.anc.col.toNat).1 s.off) s.on else zEc (selS s)) else 0 := rfl;have HR := zA hbs;clear hbs;cases hm : mayS s
 ·rw [hm] at HM HR
  have HR : Hid (xX s = 0) := zA (HR.out.trans (if_neg qT));obtain ⟨p0, f0⟩ := blk k0;obtain ⟨va, vc, rfl⟩ := h.slice;clear h he hs hf k0 hB hm HSp HO HVF;go_enter Tryz.func43, Tryz.ntmps43;go_wp2_with (go_at_call 27; refine (HM.out _ hw0).mono ?_; rintro e w2 ⟨rfl, hb2⟩);go_ret;rw [HR.out];exact ⟨rfl, H1.out.trans (hb2.mono hs1)⟩
 by_cases hc : s.anc = s.foc
 ·rw [hm] at HM HR
  rw [if_pos rfl, if_pos hc] at HR;rw [decide_eq_true hc] at HO;rw [zDn hc] at HSp;have HR := zA HR.out;obtain ⟨i, n, l, hi, hn, hl, hcl, hnn, hnl⟩ := zCt (vY hm).2.1;have hc1 : (kO (xL s) s.anc.col.toNat) = kO l.cells n := by unfold xL; rw [hcl, hnn]
  obtain ⟨x, y, hxy⟩ : ∃ x y, kO l.cells n = (x, y) := ⟨_, _, rfl⟩;rw [hc1, hxy] at HR;have HXY := zA hxy;have hil := (List.getElem?_eq_some_iff.1 hl).1;obtain ⟨va, vc, rfl, hvc, hvm, hx⟩ := kJ h;obtain ⟨b, o, la, lc, ca, cc, rfl, hAt⟩ := hx i l hl;have HAT : Hid (∀ W, Below W1.heap.size W1 W → LinAt W S b (o + i * 4) l la lc ca cc) := zA fun W hW => hAt.below (hB.trans (hW.mono hs1));unfold maxLen at hvm;have i0 : (0 : Int) ≤ (i : Int) := Int.natCast_nonneg _;have i1 : (i : Int) < (s.lines.length : Int) := by omega
  obtain ⟨p0, f0⟩ := blk k0;obtain ⟨r, hr⟩ : ∃ r, xX s = r := ⟨_, rfl⟩;rw [hr] at HR ⊢;clear hr;obtain ⟨lines, anc, foc, on, off⟩ := s;obtain ⟨al, ac⟩ := anc;simp only at hi hn hc;subst hi hn hc;clear h he hs hf hm hcl hnn hc1 hxy hl hx hAt k0 hB HVF;go_enter Tryz.func43, Tryz.ntmps43;go_wp2_with (first | (go_at_call 27; refine (HM.out _ hw0).mono ?_; rintro e w2 ⟨rfl, hb2⟩; obtain ⟨q0, g0⟩ := blk (HB.out _ hb2)) | (go_at_call 49; refine (HSp.out _ hb2).mono ?_; rintro e w3 ⟨rfl, hst3⟩; have hb3 := zW hb2 hst3; obtain ⟨q1, g1⟩ := blk (HB.out _ hb3); have e3 : ¬ w3.heap.size = w.heap.size := (by have := hb3.size; omega); have HA3 : Hid (∀ X Y, Below W1.heap.size W1 ((w3.alloc X).alloc Y)) := zA fun X Y => (hb3.alloc hb3.size X).alloc (by have := hb3.size; simp; omega) Y; have r1 := zBb (HB.out _ hb3)) | (go_at_call 50; refine (HO.out _ (HA3.out _ _)).mono ?_; rintro e w4 ⟨rfl, hst4⟩));have hb4 := zW (HA3.out _ _) hst4;have n3 : w4.heap[w3.heap.size]? = some (.cells #[.int .i64 i, .int .i64 n] 24) := zX hst4 (zY _ _ (qF _ _ rfl));have HB4 : Hid (∀ W, Below w4.heap.size w4 W → W.heap[w3.heap.size]? = some (.cells #[.int .i64 i, .int .i64 n] 24)) := zA fun W hW => zX hW n3
  have HAr : Hid (∀ W, Below w4.heap.size w4 W → Calls zV 84 #[.slice ca l.cells.length cc, .int .i64 n] W fun e w' => e = .returned (.tuple #[.int .i64 x, .string ⟨y.toArray⟩]) ∧ Below W.heap.size W w') := zA fun W hW => by
   have := zDE _ l.cells n W S (HAT.out W (zW hb4 hW)).cellsR hnl;rw [HXY.out] at this;exact this
  try clear n3 q0 g0 p0 f0 q1 g1 r1
  refine kZ w4.heap.size qC qC ?_;refine zI qC (fun K hK => ?_);refine qK ?_ (fun W hW => ?_) (hK _ ?_);rotate_left 1
  ·skip
   go_simp
   try rfl
  clear hK;clear K;try simp only [zU, qI, qX, qY]
  refine zI qC (fun K hK => ?_);refine qK ?_ (fun W hW => ?_) (hK _ ?_);rotate_left 1
  ·skip
   obtain ⟨p0, f0⟩ := blk (HB.out _ (zW hb4 hW));obtain ⟨p3, f3⟩ := blk (HB4.out _ hW);obtain ⟨_, _, _, _, c3, _, _⟩ := HAT.out _ (zW hb4 hW);go_simp
   try rfl
  clear hK;clear K;try simp only [zU, qI, qX, qY]
  refine zI qC (fun K hK => ?_);refine qK ?_ (fun W hW => ?_) (hK _ ?_);rotate_left 1
  ·skip
   go_simp
   try rfl
  clear hK;clear K;try simp only [zU, qI, qX, qY]
  refine zI qC (fun K hK => ?_);refine qK ?_ (fun W hW => ?_) (hK _ ?_);rotate_left 1
  ·skip
   obtain ⟨p0, f0⟩ := blk (HB.out _ (zW hb4 hW));obtain ⟨p3, f3⟩ := blk (HB4.out _ hW);obtain ⟨_, _, _, _, c3, _, _⟩ := HAT.out _ (zW hb4 hW);go_simp
   try rfl
  clear hK;clear K;try simp only [zU, qI, qX, qY]
  refine zI qC (fun K hK => ?_);refine qK ?_ (fun W hW => ?_) (hK _ ?_);rotate_left 1
  ·skip
   go_simp
   try rfl
  clear hK;clear K;try simp only [zU, qI, qX, qY]
  refine zI qC (fun K hK => ?_);refine qK ?_ (fun W hW => ?_) (hK _ ?_);rotate_left 1
  ·skip
   go_simp
   try rfl
  clear hK;clear K;try simp only [zU, qI, qX, qY]
  refine zI qC (fun K hK => ?_);refine qK ?_ (fun W hW => ?_) (hK _ ?_);rotate_left 1
  ·skip
   obtain ⟨p0, f0⟩ := blk (HB.out _ (zW hb4 hW));obtain ⟨p3, f3⟩ := blk (HB4.out _ hW);obtain ⟨_, _, _, _, c3, _, _⟩ := HAT.out _ (zW hb4 hW);go_simp
   try rfl
  clear hK;clear K;try simp only [zU, qI, qX, qY]
  refine zI qC (fun K hK => ?_);refine qK ?_ (fun W hW => ?_) (hK _ ?_);rotate_left 1
  ·skip
   go_simp
   try rfl
  clear hK;clear K;try simp only [zU, qI, qX, qY]
  refine zI qC (fun K hK => ?_);refine qK ?_ (fun W hW => ?_) (hK _ ?_);rotate_left 1
  ·skip
   obtain ⟨p0, f0⟩ := blk (HB.out _ (zW hb4 hW));obtain ⟨p3, f3⟩ := blk (HB4.out _ hW);obtain ⟨_, _, _, _, c3, _, _⟩ := HAT.out _ (zW hb4 hW);go_simp
   try rfl
  clear hK;clear K;try simp only [zU, qI, qX, qY]
  refine zI qC (fun K hK => ?_);refine yX (f := ?_) (args := ?_) ?_ (fun W hW => ?_) (fun W hW => ?_) (hK _ ?_);rotate_left 3
  ·go_simp
   constructor <;> rfl
  ·refine (HAr.out _ hW).mono ?_
   rintro e W2 ⟨rfl, hbW⟩;refine ⟨?_, zW hW hbW⟩
   rfl
  clear hK;clear K;try simp only [zU, qI, qX, qY]
  refine zI qC (fun K hK => ?_);refine qK ?_ (fun W hW => ?_) (hK _ ?_);rotate_left 1
  ·skip
   go_simp
   try rfl
  clear hK;clear K;try simp only [zU, qI, qX, qY]
  refine zI qC (fun K hK => ?_);refine qK ?_ (fun W hW => ?_) (hK _ ?_);rotate_left 1
  ·skip
   go_simp
   try rfl
  clear hK;clear K;try simp only [zU, qI, qX, qY]
  refine zI qC (fun K hK => ?_);refine qK ?_ (fun W hW => ?_) (hK _ ?_);rotate_left 1
  ·skip
   go_simp
   try rfl
  clear hK;clear K;try simp only [zU, qI, qX, qY]
  refine zI qC (fun K hK => ?_);refine qK ?_ (fun W hW => ?_) (hK _ ?_);rotate_left 1
  ·skip
   go_simp
   try rfl
  clear hK;clear K;try simp only [zU, qI, qX, qY]
  refine zI qC (fun K hK => ?_);refine qK ?_ (fun W hW => ?_) (hK _ ?_);rotate_left 1
  ·skip
   go_simp
   try rfl
  clear hK;clear K;try simp only [zU, qI, qX, qY]
  refine wpQuiet_nil (fun X6 hstX6 => ?_);have hcX6 := zW hb4 hstX6;obtain ⟨p0, f0⟩ := blk (HB.out _ hcX6);go_wp2_with fail;go_ret;rw [HR.out];exact ⟨rfl, H1.out.trans (hcX6.mono hs1)⟩
 ·rw [hm] at HM HR
  rw [if_pos rfl, if_neg hc] at HR;rw [decide_eq_false hc] at HO;have HR := zA HR.out;obtain ⟨A, B, hAB⟩ : ∃ A B, qV s = (A, B) := ⟨_, _, rfl⟩;have hsel : selS s = cellsD s.lines A B := by unfold selS; rw [hAB]
  rw [hsel] at HR;rw [hAB] at HSp;have HVF := HVF;have hL : (cellsD s.lines A B).length ≤ 100000 := Nat.le_trans (uW _ _ _) hs.1;have HL := zA hL;obtain ⟨p0, f0⟩ := blk k0;obtain ⟨va, vc, rfl⟩ := h.slice;clear h he hs hf hm hc hAB hsel hL k0 hB;refine (callsIn_wide (n := 6)).1 ?_;refine callsIn_of_wp_marks Tryz.func43 rfl trivial ?_ rfl;simp only [Tryz.ntmps43, List.size_toArray, List.length_cons, List.length_nil, Nat.reduceAdd, Nat.reduceSub, Array.replicate_succ, Array.replicate_zero, List.push_toArray, List.append_toArray, List.nil_append, List.cons_append];have hwf : ∀ f, Fence.wide.fn f := fun _ => trivial;have hwd : Fence.wide.depth = none := rfl
  gi_wp2_with (first
   | (gi_at_call 27; refine (callsIn_wide.2 (HM.out _ hw0)).mono ?_; rintro e w2 ⟨rfl, hb2⟩; obtain ⟨q0, g0⟩ := blk (HB.out _ hb2))
   | (gi_at_call 49; refine (callsIn_wide.2 (HSp.out _ hb2)).mono ?_; rintro e w3 ⟨rfl, hst3⟩; have hb3 := zW hb2 hst3; obtain ⟨q1, g1⟩ := blk (HB.out _ hb3); have HA3 : Hid (∀ X Y, Below W1.heap.size W1 ((w3.alloc X).alloc Y)) := zA fun X Y => (hb3.alloc hb3.size X).alloc (by have := hb3.size; simp; omega) Y; have hz3 := hb3.size; have e3 : ¬ w3.heap.size = w.heap.size := qE; have r1 := zBb (HB.out _ hb3))
   | (gi_at_call 50; refine (callsIn_wide.2 (HO.out _ (HA3.out _ _))).mono ?_; rintro e w4 ⟨rfl, hst4⟩; have hb4 := zW (HA3.out _ _) hst4; obtain ⟨q2, g2⟩ := blk (HB.out _ hb4); have n3 := zX hst4 (zY _ (.cells #[.int .i64 B.line, .int .i64 B.col] 24) (qF w3 (.cells #[.int .i64 A.line, .int .i64 A.col] 24) rfl)); have n4 := zX hst4 (qF (w3.alloc (.cells #[.int .i64 A.line, .int .i64 A.col] 24)) (.cells #[.int .i64 B.line, .int .i64 B.col] 24) (B := w3.heap.size + 1) qT); obtain ⟨q3, g3⟩ := blk n3; obtain ⟨q4, g4⟩ := blk n4; have r2 := zBb (HB.out _ hb4); have r3 := zBb n3; have r4 := zBb n4)
   | (gi_at_call 61; refine (callsIn_wide.2 (zDo _ _ _ A B _)).mono ?_; rintro e w5 ⟨rfl, rfl⟩))
  have hx4 : Below w.heap.size w w4 := H1.out.trans (hb4.mono hs1);have hz4 := hb4.size;have hz34 : w3.heap.size + 2 ≤ w4.heap.size := by have := hst4.size; simpa using this
  obtain ⟨w6, hw6⟩ : ∃ w6, ((((w4.alloc (.cells #[.int .i64 15] 3)).alloc (.cells #[.int .i64 0] 3)).alloc (.cells #[.slice va s.lines.length vc] 22)).alloc (.cells #[.int .i64 A.line, .int .i64 A.col] 24)).alloc (.cells #[.int .i64 B.line, .int .i64 B.col] 24) = w6 := ⟨_, rfl⟩;rw [hw6];have hb46 : Below w4.heap.size w4 w6 := hw6 ▸ (((((zE _ _).alloc (zC _) _).alloc qT _).alloc jD _).alloc jD _).alloc jD _;have hz6 : w6.heap.size = w4.heap.size + 5 := by rw [← hw6]; simp
  have m0 : w6.heap[w4.heap.size]? = some (.cells #[.int .i64 15] 3) := hw6 ▸ zY _ _ (zY _ _ (zY _ _ (zY _ _ (qF _ _ rfl))));have m1 : w6.heap[w4.heap.size + 1]? = some (.cells #[.int .i64 0] 3) := hw6 ▸ zY _ _ (zY _ _ (zY _ _ (qF _ _ qT)));have m2 : w6.heap[w4.heap.size + 1 + 1]? = some (.cells #[.slice va s.lines.length vc] 22) := hw6 ▸ zY _ _ (zY _ _ (qF _ _ qT));have m3 : w6.heap[w4.heap.size + 1 + 1 + 1]? = some (.cells #[.int .i64 A.line, .int .i64 A.col] 24) := hw6 ▸ zY _ _ (qF _ _ qT);have m4 : w6.heap[w4.heap.size + 1 + 1 + 2]? = some (.cells #[.int .i64 B.line, .int .i64 B.col] 24) := hw6 ▸ qF _ _ qT;have hb6 : Below w.heap.size w w6 := hx4.trans (hb46.mono hx4.size);have hBI : BI w w4.heap.size (w4.heap.size + 1) w6.heap.size [] w6 := ⟨m0, m1, hb6, zC _⟩;have N0 := zA (zB m2 (zB m3 (zB m4 (zX hb46 n3))));clear hw6 m0 m1 m2 m3 m4 n3 n4 q0 g0 q1 g1 q2 g2 q3 g3 q4 g4 r1 r2 r3 r4 p0 f0 hW1
  refine zDd rfl qE (gf := 102) (lb := #[.pointer (some ⟨w4.heap.size + 1 + 1, 0, none⟩), .pointer (some ⟨w4.heap.size + 1 + 1 + 1, 0, none⟩), .pointer (some ⟨w4.heap.size + 1 + 1 + 2, 0, none⟩)]) rfl trivial (enters_of Tryz.func102 qC rfl)
   (encs := fun c : Cel => #[celV c]) (n₀ := w.heap.size) (base := w6.heap.size) (Bs := w3.heap.size) (S := fun ys => ys = cellsD s.lines A B) (Sp := fun pre => pre <+: cellsD s.lines A B) (N := 200000) (w0 := w6) ?seq hb6.size qE (zE _ _) (fun _ => rfl)
   (BI w w4.heap.size (w4.heap.size + 1) w6.heap.size) (fun _ _ _ => False) (zMX hb6.size) (fun _ _ _ _ _ hs _ _ => hs) hBI (fun _ _ h => h.2.2.2)
   (fun x => #[.int .i32 x.r, .int .i64 x.bits, .string ⟨x.href.toArray⟩]) 43 ?act ?assign ?body ?done ?stop
  case seq =>
   intro l J Jx W hW hJ _ hY h0;have hzW := hW.size
   exact zDp 5 l (w4.heap.size + 1 + 1) (w4.heap.size + 1 + 1 + 1) (w4.heap.size + 1 + 1 + 2) w6.heap.size w3.heap.size (.slice va s.lines.length vc) s.lines A B S J Jx w W HVF.out.1 HVF.out.2.1 HVF.out.2.2.1 HVF.out.2.2.2 (hb6.trans (hW.mono hb6.size)) hW.size (zX hW N0.out.1) (zX hW N0.out.2.1) (zX hW N0.out.2.2.1) qE
    (by unfold yL; rw [jS (zX hW N0.out.2.2.2)]; rfl) hJ hY h0
  case assign =>
   intro l pre x W K Bx hBx hI hK;unfold celV
   gi_wp2
   rw [← hBx];exact hK
  case body =>
   intro l pre x Bx W hI hBx hbx hlt;obtain ⟨t0, t1, hb, hz⟩ := hI;obtain ⟨s0, s0f⟩ := blk t0;obtain ⟨s1, s1f⟩ := blk t1;obtain ⟨sx, sxf⟩ := blk hbx;obtain ⟨a, ha⟩ : ∃ a, andB pre = a := ⟨_, rfl⟩;have HA := zA (zB t0 (zB t1 (zB hb hz)));have HSN : Hid (andB (pre ++ [x]) = bits .and .i64 a x.bits ∧ (pre ++ [x]).length = pre.length + 1) := zA ⟨by rw [zGp, ha], by simp⟩;rw [ha] at s0 HA;have e1 : ¬ w4.heap.size = w4.heap.size + 1 := by omega
   have e2 : ¬ w4.heap.size + 1 = w4.heap.size := by omega
   clear t0 t1 hb hz ha
   gi_wp2_with fail
   have hwz := hb6.size;have hzW := HA.out.2.2.2;refine ⟨((KeepsOthers.setCell _ _ _).trans (KeepsOthers.setCell _ _ _)).from _, (Kd.setCell _ qE qE qE _).t (Kd.setCell _ qE qE qE _), ?_, ?_, ?_, ?_⟩
   ·show (World.heap _)[_]? = _
    rw [jN, if_neg qT, jN, if_pos rfl, show W.heap[w4.heap.size]? = _ from HA.out.1, HSN.out.1]; rfl
   ·show (World.heap _)[_]? = _
    rw [jN, if_pos rfl, jN, if_neg qT, show W.heap[w4.heap.size + 1]? = _ from HA.out.2.1, HSN.out.2]
    rfl
   ·exact (HA.out.2.2.1.setCell (by show w.heap.size ≤ w4.heap.size; omega) _).setCell (by show w.heap.size ≤ w4.heap.size + 1; omega) _
   ·simpa only [World.size_setCell] using hzW
  case done =>
   rintro D ys W hD hys ⟨t0, t1, hb, hz⟩ hK;subst hys;obtain ⟨s0, s0f⟩ := blk t0;obtain ⟨s1, s1f⟩ := blk t1;have HB9 := zA hb;have HK9 := zA hK;have HL9 := HL.out;clear hb hK t0 t1 HVF N0 hBI
   generalize cellsD s.lines A B = L at *
   cases L with
   | nil =>
    gi_wp2_with fail
    refine ⟨by simp, .inl ⟨_, _, rfl, run_takeDeferred HK9.out, ?_⟩⟩;refine ⟨.int .i64 0, by simp [results, Tryz.results43, go_sem], ?_⟩;rw [HR.out];exact ⟨rfl, HB9.out.trans (belowK_b (w := w) (zC _) W D _ _ (by have := hb6.size; omega) HK9.out rfl rfl)⟩
   | cons c l =>
    have HR : Hid (xX s = andB (c :: l)) := zA (HR.out.trans (if_neg qT));obtain ⟨n, hn⟩ : ∃ n, (c :: l).length = n := ⟨_, rfl⟩;have hn0 : ((n : Int) == 0) = false := by rw [← hn]; simp; omega
    obtain ⟨a, ha⟩ : ∃ a, andB (c :: l) = a := ⟨_, rfl⟩;rw [hn] at s1 HL9;rw [ha] at s0 HR;clear hn ha
    gi_wp2_with fail
    refine ⟨by simp, .inl ⟨_, _, rfl, run_takeDeferred HK9.out, ?_⟩⟩;refine ⟨.int .i64 a, by simp [results, Tryz.results43, go_sem], ?_⟩;rw [HR.out];exact ⟨rfl, HB9.out.trans (belowK_b (w := w) (zC _) W D _ _ (by have := hb6.size; omega) HK9.out rfl rfl)⟩
  case stop =>
   rintro D c pre W _ _ h _;exact h.elim
set_option maxRecDepth 100000 in
theorem zJP (v : Value) (s : St) (t : Int) (w : World) (S : Nat → Prop) (h : jC w S v s.lines) (he : EnvT w) (hs : Small s.lines) (hf : Fits s.lines) :
  Calls zV 22 #[stV v s, .int .i64 t] w fun e w' => e = .returned (.bool (hasS s t)) ∧ Below w.heap.size w w' := by
 obtain ⟨W1, hW1, hB, hz, k0⟩ := xC w v s;have HB : Hid (∀ W, Below W1.heap.size W1 W → W.heap[w.heap.size]? = some (.cells #[v, .int .i64 s.anc.line, .int .i64 s.anc.col, .int .i64 s.foc.line, .int .i64 s.foc.col, .int .i64 s.on, .int .i64 s.off] 26)) := zA fun W hW => zX hW k0;have hs1 := hB.size;have H1 := zA hB;have hw0 : Below W1.heap.size W1 W1 := zE _ _;have HV : Hid (∀ W, Below W1.heap.size W1 W → jC W S v s.lines) := zA fun W hW => h.below (jY _) (hB.trans (hW.mono hs1));have HE : Hid (∀ W, Below W1.heap.size W1 W → EnvT W) := zA fun W hW => (he.below hB).below hW;have HC : Hid (∀ W, Below W1.heap.size W1 W → Calls zV 43 #[stV v s] W fun e w' => e = .returned (.int .i64 (xX s)) ∧ Below W.heap.size W w') := zA fun W hW => zEW v s W S (HV.out W hW) (HE.out W hW) hs hf;have HR : Hid (hasS s t = (!(t == 0) && (bits .and .i64 (xX s) t == t))) := zA rfl;obtain ⟨p0, f0⟩ := blk k0;obtain ⟨va, vc, rfl⟩ := h.slice;clear h he hs hf k0 hB
 generalize xX s = r at *
 by_cases ht : t = 0
 ·subst ht
  go_enter Tryz.func22, Tryz.ntmps22;go_wp2_with fail;go_ret;rw [HR.out];exact ⟨rfl, H1.out⟩
 ·have ht' : (t == 0) = false := by simpa using ht
  have ht2 : (t != 0) = true := by simpa using ht
  clear ht;rw [ht'] at HR;go_enter Tryz.func22, Tryz.ntmps22;go_wp2_with (go_at_call 43; refine (HC.out _ hw0).mono ?_; rintro e w2 ⟨rfl, hb2⟩);go_ret;rw [HR.out];exact ⟨rfl, H1.out.trans (hb2.mono hs1)⟩
set_option maxRecDepth 100000 in
theorem zIh (v : Value) (s : St) (t : Int) (w : World) (S : Nat → Prop) (h : jC w S v s.lines) (he : EnvT w) (hs : Small s.lines) (hf : Fits s.lines) :
  Calls zV 28 #[stV v s, .int .i64 t] w fun e w' => e = .returned (.bool (xD s t)) ∧ Below w.heap.size w w' := by
 obtain ⟨W1, hW1, hB, hz, k0⟩ := xC w v s;have HB : Hid (∀ W, Below W1.heap.size W1 W → W.heap[w.heap.size]? = some (.cells #[v, .int .i64 s.anc.line, .int .i64 s.anc.col, .int .i64 s.foc.line, .int .i64 s.foc.col, .int .i64 s.on, .int .i64 s.off] 26)) := zA fun W hW => zX hW k0;have hs1 := hB.size;have H1 := zA hB;have hw0 : Below W1.heap.size W1 W1 := zE _ _;have HV : Hid (∀ W, Below W1.heap.size W1 W → jC W S v s.lines) := zA fun W hW => h.below (jY _) (hB.trans (hW.mono hs1));have HE : Hid (∀ W, Below W1.heap.size W1 W → EnvT W) := zA fun W hW => (he.below hB).below hW;have HM : Hid (∀ W, Below W1.heap.size W1 W → Calls zV 27 #[stV v s] W fun e w' => e = .returned (.bool (mayS s)) ∧ Below W.heap.size W w') := zA fun W hW => uM v s W S (HV.out W hW) (HE.out W hW) hs;have HSp : Hid (∀ W, Below W1.heap.size W1 W → Calls zV 49 #[stV v s] W fun e w' => e = .returned (.tuple #[.agg #[.int .i64 (qV s).1.line, .int .i64 (qV s).1.col], .agg #[.int .i64 (qV s).2.line, .int .i64 (qV s).2.col]]) ∧ Below W.heap.size W w') := zA fun W _ => zAk v s W;have HO : Hid (∀ W, Below W1.heap.size W1 W → Calls zV 50 #[stV v s] W fun e w' => e = .returned (.bool (!decide (s.anc = s.foc))) ∧ Below W.heap.size W w') := zA fun W _ => zCb v s W;have HR : Hid (xD s t = (mayS s && (!decide (s.anc = s.foc) && (vJ (selS s) t && !allL (selS s) t)))) := zA rfl;obtain ⟨A, B, hAB⟩ : ∃ A B, qV s = (A, B) := ⟨_, _, rfl⟩;have hsel : selS s = cellsD s.lines A B := by unfold selS; rw [hAB]
 rw [hsel] at HR;rw [hAB] at HSp;clear hAB hsel
 have HSo : Hid (∀ W, Below W1.heap.size W1 W → Calls zV 51 #[v, .agg #[.int .i64 A.line, .int .i64 A.col], .agg #[.int .i64 B.line, .int .i64 B.col], .int .i64 t] W fun e w' => e = .returned (.bool (vJ (cellsD s.lines A B) t)) ∧ Below W.heap.size W w') := zA fun W hW => by
  have := zFi v s.lines A B t W S _ rfl (HV.out W hW) (HE.out W hW) hs;rw [zFR] at this;exact this
 have HAl : Hid (∀ W, Below W1.heap.size W1 W → Calls zV 52 #[v, .agg #[.int .i64 A.line, .int .i64 A.col], .agg #[.int .i64 B.line, .int .i64 B.col], .int .i64 t] W fun e w' => e = .returned (.bool (allL (cellsD s.lines A B) t)) ∧ Below W.heap.size W w') := zA fun W hW => by
  have := zFM v s.lines A B t W S _ rfl (HV.out W hW) (HE.out W hW) hs;rw [zFS] at this;exact this
 obtain ⟨p0, f0⟩ := blk k0;obtain ⟨va, vc, rfl⟩ := h.slice;clear h he hs hf k0 hB HV HE
 generalize xD s t = R at *
 generalize vJ (cellsD s.lines A B) t = x at *
 generalize allL (cellsD s.lines A B) t = y at *
 generalize mayS s = m at *
 generalize decide (s.anc = s.foc) = u at *
 cases m
 all_goals
  cases u
  all_goals
   cases x
   all_goals
    go_enter Tryz.func28, Tryz.ntmps28
    go_wp2_with (first
     | (go_at_call 49; refine (HSp.out _ hw0).mono ?_; rintro e w3 ⟨rfl, hb3⟩; obtain ⟨q1, g1⟩ := blk (HB.out _ hb3); have HA3 : Hid (∀ X Y, Below W1.heap.size W1 ((w3.alloc X).alloc Y)) := zA fun X Y => (hb3.alloc hb3.size X).alloc (by have := hb3.size; simp; omega) Y; have hz3 := hb3.size; have e3 : ¬ w3.heap.size = w.heap.size := qE; have r1 := zBb (HB.out _ hb3))
     | (go_at_call 27; refine (HM.out _ (HA3.out _ _)).mono ?_; rintro e w4 ⟨rfl, hst4⟩; have hb4 := zW (HA3.out _ _) hst4; obtain ⟨q2, g2⟩ := blk (HB.out _ hb4); have n3 := zX hst4 (zY _ (.cells #[.int .i64 B.line, .int .i64 B.col] 24) (qF w3 (.cells #[.int .i64 A.line, .int .i64 A.col] 24) rfl)); have n4 := zX hst4 (qF (w3.alloc (.cells #[.int .i64 A.line, .int .i64 A.col] 24)) (.cells #[.int .i64 B.line, .int .i64 B.col] 24) (B := w3.heap.size + 1) qT))
     | (go_at_call 50; refine (HO.out _ hb4).mono ?_; rintro e w5 ⟨rfl, hst5⟩; have hb5 := zW hb4 hst5; obtain ⟨q5, g5⟩ := blk (HB.out _ hb5); obtain ⟨q3, g3⟩ := blk (zX hst5 n3); obtain ⟨q4, g4⟩ := blk (zX hst5 n4))
     | (go_at_call 51; refine (HSo.out _ hb5).mono ?_; rintro e w6 ⟨rfl, hst6⟩; have hb6 := zW hb5 hst6; have hst56 := zW hst5 hst6; obtain ⟨q6, g6⟩ := blk (HB.out _ hb6); obtain ⟨q7, g7⟩ := blk (zX hst56 n3); obtain ⟨q8, g8⟩ := blk (zX hst56 n4))
     | (go_at_call 52; refine (HAl.out _ hb6).mono ?_; rintro e w7 ⟨rfl, hst7⟩; have hb7 := zW hb6 hst7))
    go_ret;refine ⟨?_, H1.out.trans (Below.mono (by first | exact hb7 | exact hb6 | exact hb5 | exact hb4) hs1)⟩;rw [HR.out]
    rfl
end Go.Proofs.YtjgeadoncanheaaGreatDoor
namespace Go.Proofs.Qw
open Go.RowKit Go.Proofs.YtjgeadoncanheaaGreatDoor
theorem zDC (c : Cel) (l : List Cel) : zCK (c :: l) = if ((c :: l).any fun x => !decide (x.href = c.href)) = true then [] else c.href := by
 have h : ((c :: l).any fun x => !decide (x.href = c.href)) = !(l.all fun x => decide (x.href = c.href)) := by
  rw [List.any_cons, List.all_eq_not_any_not]
  simp
 rw [h]
 show (if l.all (fun x => decide (x.href = c.href)) = true then c.href else []) = _
 cases l.all (fun x => decide (x.href = c.href)) <;> rfl
end Go.Proofs.Qw
namespace Go.Proofs.YtjgeadoncanheaaGreatDoor
open Go.RowKit
open Go.Proofs.Qw
open _root_.Go.Lib renaming hid → zA
open _root_.Go.RowKit.Below renaming refl → zE, setCell → zF, alloc → zG, drew → zH
open _root_.Go renaming bodyPost_ret → zM
open _root_.Go.Proofs.Tryz renaming prog → zV
open _root_.Go.Proofs.YtjgeadoncanheaaGreatDoor renaming jH → zW
open _root_.Go.Proofs.Qw renaming jY → zZ
theorem zLT (a b : List UInt8) : (a != b) = !decide (a = b) := by
 by_cases h : a = b
 ·subst h; simp
 ·rw [decide_eq_false h]; simpa using h
theorem zIj (B : Nat) (v : Value) (c : Cel) (l : List Cel) (x : Cel) (w : World) (S : Nat → Prop) (h : jE false w S v (c :: l)) (hB : w.heap[B]? = some (.cells #[v] 44)) :
  Calls zV 63 #[celV x, .pointer (some ⟨B, 0, none⟩)] w fun e w' => e = .returned (.bool (!decide (x.href = c.href))) ∧ Below w.heap.size w w' := by
 have hlt := (Array.getElem?_eq_some_iff.1 hB).1;obtain ⟨a, cc, rfl, hcc, hm, hx⟩ := yO h;obtain ⟨b, o, rfl, hz, c0, c1, c2⟩ := hx 0 c rfl;have c2' := c2;rw [Nat.zero_mul, Nat.add_zero] at c2';have p2 : ∀ ob, (w.alloc ob).cell? ⟨B, 0, none⟩ = some (.slice (some ⟨b, o, none⟩) (c :: l).length cc) := fun ob => on1 hB ob 0;have p3 : ∀ ob, (w.alloc ob).cell? ⟨b, o + 2, none⟩ = some (.string ⟨c.href.toArray⟩) := fun ob => (World.cell?_of_block (heap_alloc_old _ _ hz)).trans c2';have ne : ¬ B = w.heap.size := by omega
 have ne2 : ¬ b = w.heap.size := by omega
 have HQ := zA (zLT x.href c.href);unfold maxLen at hm;obtain ⟨n, hn⟩ : ∃ n, (c :: l).length = n := ⟨_, rfl⟩;have n0 : (0 : Int) < (n : Int) := by rw [← hn]; simp
 rw [hn] at p2 hcc;clear hn h hx c0 c1 c2 hB;unfold celV;go_enter Tryz.func63, Tryz.ntmps63;go_wp2_with fail;go_region;go_wp2_with fail;go_ret;rw [← HQ.out];exact ⟨rfl, by ((with_reducible repeat' first | exact zE _ _ | assumption | refine zG ?_ ?_ _ | refine zH ?_ | refine jK ?_ | refine zF ?_ ?_ _) <;> go_size)⟩
set_option maxRecDepth 100000 in
theorem zIW (v : Value) (s : St) (w : World) (S : Nat → Prop) (h : jC w S v s.lines) (he : EnvT w) (hs : Small s.lines) (hf : Fits s.lines) :
  Calls zV 34 #[stV v s] w fun e w' => e = .returned (.string ⟨(vT s).toArray⟩) ∧ Below w.heap.size w w' := by
 obtain ⟨W1, hW1, hB, hz, k0⟩ := xC w v s;have HB : Hid (∀ W, Below W1.heap.size W1 W → W.heap[w.heap.size]? = some (.cells #[v, .int .i64 s.anc.line, .int .i64 s.anc.col, .int .i64 s.foc.line, .int .i64 s.foc.col, .int .i64 s.on, .int .i64 s.off] 26)) := zA fun W hW => jG hW k0;have hs1 := hB.size;have H1 := zA hB;have hw0 : Below W1.heap.size W1 W1 := zE _ _;have HV : Hid (∀ W, Below W1.heap.size W1 W → jC W S v s.lines) := zA fun W hW => h.below (zZ _) (hB.trans (hW.mono hs1));have HE : Hid (∀ W, Below W1.heap.size W1 W → EnvT W) := zA fun W hW => (he.below hB).below hW;have HM : Hid (∀ W, Below W1.heap.size W1 W → Calls zV 27 #[stV v s] W fun e w' => e = .returned (.bool (mayS s)) ∧ Below W.heap.size W w') := zA fun W hW => uM v s W S (HV.out W hW) (HE.out W hW) hs;have HR : Hid (vT s = if mayS s = true then zCK (cellsD s.lines (jZ s).1 (jZ s).2) else []) := zA rfl;have HVF := zA (And.intro hs hf);cases hm : mayS s
 ·rw [hm] at HM HR
  have HR : Hid (vT s = []) := zA (HR.out.trans (if_neg qT));obtain ⟨p0, f0⟩ := blk k0;obtain ⟨va, vc, rfl⟩ := h.slice;clear h he hs hf k0 hB hm;go_enter Tryz.func34, Tryz.ntmps34;go_wp2_with ((go_at_call 27; refine (HM.out _ hw0).mono ?_; rintro e w2 ⟨rfl, hst2⟩; have hb2 := zW hw0 hst2; skip));go_ret;rw [HR.out];exact ⟨rfl, H1.out.trans (hb2.mono hs1)⟩
 ·have hA := (vY hm).2.1
  rw [hm] at HM HR;rw [if_pos rfl] at HR;have HH : Hid (∀ W, Below W1.heap.size W1 W → Calls zV 59 #[stV v s] W fun e w' => e = .returned (.tuple #[.agg #[.int .i64 (jZ s).1.line, .int .i64 (jZ s).1.col], .agg #[.int .i64 (jZ s).2.line, .int .i64 (jZ s).2.col]]) ∧ Below W.heap.size W w') := zA fun W hW => zEV v s W S (HV.out W hW) hf hA;obtain ⟨A, B, hAB⟩ : ∃ A B, jZ s = (A, B) := ⟨_, _, rfl⟩;rw [hAB] at HH HR;simp only at HH HR;have HL : Hid ((cellsD s.lines A B).length ≤ 100000) := zA (Nat.le_trans (uW _ _ _) hs.1);obtain ⟨p0, f0⟩ := blk k0;obtain ⟨va, vc, rfl⟩ := h.slice;clear h he hs hf hm hA hAB k0 hB;go_enter Tryz.func34, Tryz.ntmps34
  go_wp2_with (first
   | (go_at_call 27; refine (HM.out _ hw0).mono ?_; rintro e w2 ⟨rfl, hst2⟩; have hb2 := zW hw0 hst2; obtain ⟨q0, g0⟩ := blk (HB.out _ hb2))
   | (go_at_call 59; refine (HH.out _ hb2).mono ?_; rintro e w3 ⟨rfl, hst3⟩; have hb3 := zW hb2 hst3; obtain ⟨q1, g1⟩ := blk (HB.out _ hb3); have hz3 := hb3.size; have e3 : ¬ w3.heap.size = w.heap.size := qE; have r1 := on2 (HB.out _ hb3))
   | (go_at_call 61; refine (zDo _ _ _ A B _).mono ?_; rintro e w5 ⟨rfl, rfl⟩))
  obtain ⟨w6, hw6⟩ : ∃ w6, ((((w3.alloc (.cells #[.int .i64 A.line, .int .i64 A.col] 24)).alloc (.cells #[.int .i64 B.line, .int .i64 B.col] 24)).alloc (.cells #[.slice va s.lines.length vc] 22)).alloc (.cells #[.int .i64 A.line, .int .i64 A.col] 24)).alloc (.cells #[.int .i64 B.line, .int .i64 B.col] 24) = w6 := ⟨_, rfl⟩;rw [hw6];have hb36 : Below w3.heap.size w3 w6 := hw6 ▸ zBH (vI (zE _ _) _ _) _ _ _;have hz6 : w6.heap.size = w3.heap.size + 5 := by rw [← hw6]; simp
  have m2 : w6.heap[w3.heap.size + 1 + 1]? = some (.cells #[.slice va s.lines.length vc] 22) := hw6 ▸ jI _ _ (jI _ _ (jF _ _ qT));have m3 : w6.heap[w3.heap.size + 1 + 1 + 1]? = some (.cells #[.int .i64 A.line, .int .i64 A.col] 24) := hw6 ▸ jI _ _ (jF _ _ qT);have m4 : w6.heap[w3.heap.size + 1 + 1 + 2]? = some (.cells #[.int .i64 B.line, .int .i64 B.col] 24) := hw6 ▸ jF _ _ qT;have hb6 := zW hb3 hb36;have HCo := zA (zJC (w3.heap.size + 1 + 1) (w3.heap.size + 1 + 1 + 1) (w3.heap.size + 1 + 1 + 2) _ s.lines A B w6 S (HV.out _ hb6) (HE.out _ hb6) HVF.out.1 HVF.out.2 m2 m3 m4);clear m2 m3 m4 hw6 q0 g0 q1 g1 r1 p0 f0 hW1;have HL9 := HL.out
  generalize cellsD s.lines A B = L at *
  cases L with
  | nil =>
   go_wp2_with (go_at_call 60; refine HCo.out.mono ?_; intro e w7 hcc; obtain ⟨v7, rfl, hv7, hb7⟩ := hcc; obtain ⟨a7, c7, rfl⟩ := hv7.slice; clear hv7);go_ret;rw [HR.out];exact ⟨rfl, H1.out.trans ((xK (zW hb6 hb7) _).mono hs1)⟩
  | cons c l =>
   rw [zDC] at HR;obtain ⟨n, hn⟩ : ∃ n, (c :: l).length = n := ⟨_, rfl⟩;have hn0 : ((n : Int) == 0) = false := by rw [← hn]; simp; omega
   have n0 : (0 : Int) < (n : Int) := by rw [← hn]; simp
   have HN := zA hn;rw [hn] at HL9;clear hn;obtain ⟨r, hr⟩ : ∃ r, ((c :: l).any fun x => !decide (x.href = c.href)) = r := ⟨_, rfl⟩;rw [hr] at HR;have HAn := zA hr;clear hr;go_wp2_with (go_at_call 60; refine HCo.out.mono ?_; intro e w7 hcc; obtain ⟨v7, rfl, hv7, hb7⟩ := hcc; obtain ⟨a7, c7, hve⟩ := hv7.slice; rw [HN.out] at hve; subst hve; have HV7 := zA hv7; clear hv7);have hb7' := zW hb6 hb7;obtain ⟨a8, c8, hve, hcc8, hmm8, hx8⟩ := SliceR.shape_own HV7.out;rw [HN.out] at hve;cases hve;obtain ⟨b8, o8, vs8, cs8, rfl, hz8, hS8, _, _, _, hvs8, he8⟩ := hx8 0 c rfl;cases hvs8;have d2 := he8 2 _ rfl;rw [Nat.zero_mul, Nat.add_zero] at d2;have H8 : ∀ X, Below w7.heap.size w7 (w7.alloc X) := fun X => xK (zE _ _) X;obtain ⟨w8, hw8⟩ : ∃ w8, w7.alloc (.cells #[.slice (some ⟨b8, o8, none⟩) n c7] 44) = w8 := ⟨_, rfl⟩;rw [hw8];have hb78 : Below w7.heap.size w7 w8 := hw8 ▸ H8 _;have hb8 := zW hb7' hb78;have m8 : w8.heap[w7.heap.size]? = some (.cells #[.slice (some ⟨b8, o8, none⟩) n c7] 44) := hw8 ▸ jF _ _ rfl;have HB8 : Hid (∀ W, Below w8.heap.size w8 W → W.heap[w7.heap.size]? = some (.cells #[.slice (some ⟨b8, o8, none⟩) n c7] 44)) := zA fun W hW => jG hW m8;have HR8 : Hid (jE false w8 (fun b => w6.heap.size ≤ b) (.slice (some ⟨b8, o8, none⟩) n c7) (c :: l)) := zA (SliceR.below (jX _) (SliceR.read (fun _ _ h => h) HV7.out) hb78);have HCn := zA (zEq _ (c :: l) (fun x => !decide (x.href = c.href)) 63 #[.pointer (some ⟨w7.heap.size, 0, none⟩)] (enters_of Tryz.func63 qC rfl) w8 w8 _ HR8.out (HE.out _ hb8) (zE _ _) (fun i x W _ _ hW _ => zIj _ _ c l x W _ (SliceR.below (jX _) HR8.out hW) (HB8.out W hW)));rw [HAn.out] at HCn;have d2' : ∀ W, Below w8.heap.size w8 W → W.cell? ⟨b8, o8 + 2, none⟩ = some (.string ⟨c.href.toArray⟩) := fun W hW => ((zW hb78 hW).cell (p := ⟨b8, o8 + 2, none⟩) hz8).trans d2;have HD := zA d2';obtain ⟨q8, g8⟩ := blk m8;clear hx8 he8 d2 d2' H8 hw8 m8;go_wp2_with (go_at_call 62; refine HCn.out.mono ?_; rintro e w9 ⟨rfl, hb9⟩; obtain ⟨q9, g9⟩ := blk (HB8.out _ hb9); have d9 := HD.out _ hb9; cases r)
   ·go_ret
    rw [HR.out];exact ⟨rfl, H1.out.trans ((zW hb8 hb9).mono hs1)⟩
   ·go_ret
    rw [HR.out];exact ⟨rfl, H1.out.trans ((zW hb8 hb9).mono hs1)⟩
theorem jU {fn : Func} {p u : Tmp} (h : fn.results = #[.cell p 26, .tmp u]) (tmps : Array Value) (w : World) (B : Nat) (a b c d e f g x : Value) (hp : tmps.getD p undef = .pointer (some ⟨B, 0, none⟩)) (hu : tmps.getD u undef = x) (hg : w.heap[B]? = some (.cells #[a, b, c, d, e, f, g] 26)) :
  (results fn tmps).run zV w = .ok (.tuple #[.agg #[a, b, c, d, e, f, g], x]) w := by
 have hp' : tmps[p]?.getD undef = .pointer (some ⟨B, 0, none⟩) := by simpa using hp
 have hu' : tmps[u]?.getD undef = x := by simpa using hu
 have e1 := run_loadVar_row (P := zV) w B 26 26 _ _ _ hg Tryz.underlying26 rfl qC;simp [results, h, hp', hu', asAddr, e1]
set_option maxRecDepth 100000 in
theorem zBR (v : Value) (s : St) (g : Nat) (lb : Array Value) (R : Doc × Int) (w : World) (S : Nat → Prop) (h : jC w S v s.lines) (he : EnvT w) (hs : Small s.lines)
  (eg : ∀ args w, (callFunc g args).run zV w = .ok (.enter g args) w)
  (hg : mayS s = true → ∀ W, Below w.heap.size w W → Calls zV g (#[v, posV (qV s).1, posV (qV s).2] ++ lb) W (DocSaid R W)) :
  Calls zV 124 #[stV v s, .func (.func g) #[] lb] w (StSaid (yY s R) w) := by
 obtain ⟨W1, hW1, hB, hz, k0, k1⟩ := yF w v s;have HB : Hid (∀ W, Below W1.heap.size W1 W → W.heap[w.heap.size]? = some (.cells #[v, .int .i64 s.anc.line, .int .i64 s.anc.col, .int .i64 s.foc.line, .int .i64 s.foc.col, .int .i64 s.on, .int .i64 s.off] 26) ∧ W.heap[w.heap.size + 1]? = some (.cells #[.slice none 0 0, .int .i64 0, .int .i64 0, .int .i64 0, .int .i64 0, .int .i64 0, .int .i64 0] 26)) := zA fun W hW => ⟨jG hW k0, jG hW k1⟩;have hs1 := hB.size;have H1 := zA hB;have hw0 : Below W1.heap.size W1 W1 := zE _ _;have HV : Hid (∀ W, Below W1.heap.size W1 W → jC W S v s.lines) := zA fun W hW => h.below (zZ _) (hB.trans (hW.mono hs1));have HE : Hid (∀ W, Below W1.heap.size W1 W → EnvT W) := zA fun W hW => (he.below hB).below hW;have HM : Hid (∀ W, Below W1.heap.size W1 W → Calls zV 27 #[stV v s] W fun e w' => e = .returned (.bool (mayS s)) ∧ Below W.heap.size W w') := zA fun W hW => uM v s W S (HV.out W hW) (HE.out W hW) hs;have HR : Hid (yY s R = if mayS s = true then zAG s R else (noS, 1)) := zA rfl;cases hm : mayS s
 ·rw [hm] at HM HR
  have HR : Hid (yY s R = (noS, 1)) := zA (HR.out.trans (if_neg qT));obtain ⟨p0, f0⟩ := blk k0;obtain ⟨p1, f1⟩ := blk k1;obtain ⟨va, vc, rfl⟩ := h.slice;clear h he hs hg k0 k1 hB hm;go_enter Tryz.func124, Tryz.ntmps124;go_wp2_with ((go_at_call 27; refine (HM.out _ hw0).mono ?_; rintro e w2 ⟨rfl, hst2⟩; have hb2 := zW hw0 hst2; obtain ⟨q1, g1⟩ := blk (HB.out _ hb2).2));refine zM (jU rfl _ _ (w.heap.size + 1) (.slice none 0 0) (.int .i64 0) (.int .i64 0) (.int .i64 0) (.int .i64 0) (.int .i64 0) (.int .i64 0) (.int .i64 1) rfl rfl zBM) rfl ?_;unfold StSaid;rw [HR.out];have hfin := H1.out.trans (hb2.mono hs1);exact ⟨_, rfl, SliceR.nil _ _ _ _ _ _, by ((with_reducible repeat' first | exact zE _ _ | assumption | refine zG ?_ ?_ _ | refine zH ?_ | refine jK ?_ | refine zF ?_ ?_ _) <;> go_size)⟩
 ·have HG : Hid (∀ W, Below W1.heap.size W1 W → Calls zV g (#[v, posV (qV s).1, posV (qV s).2] ++ lb) W (DocSaid R W)) := zA fun W hW => hg hm W (hB.trans (hW.mono hs1))
  rw [hm] at HM HR;rw [if_pos rfl] at HR;have HR : Hid (yY s R = if R.2 = 0 then (⟨R.1, s.anc, s.foc, 0, 0⟩, 0) else (noS, R.2)) := zA HR.out;have HSp : Hid (∀ W, Below W1.heap.size W1 W → Calls zV 49 #[stV v s] W fun e w' => e = .returned (.tuple #[.agg #[.int .i64 (qV s).1.line, .int .i64 (qV s).1.col], .agg #[.int .i64 (qV s).2.line, .int .i64 (qV s).2.col]]) ∧ Below W.heap.size W w') := zA fun W hW => zAk v s W;obtain ⟨A, B, hAB⟩ : ∃ A B, qV s = (A, B) := ⟨_, _, rfl⟩;rw [hAB] at HSp HG;simp only at HSp HG;obtain ⟨D, er, hD⟩ : ∃ D er, R = (D, er) := ⟨_, _, rfl⟩;subst hD;have HP : Hid (∀ p : Ps, posV p = .agg #[.int .i64 p.line, .int .i64 p.col]) := zA fun _ => rfl;rw [HP.out, HP.out] at HG;obtain ⟨p0, f0⟩ := blk k0;obtain ⟨p1, f1⟩ := blk k1;obtain ⟨va, vc, rfl⟩ := h.slice;clear h he hs hg k0 k1 hB hm hAB
  by_cases h0 : er = 0
  ·subst h0
   have HR := zA (HR.out.trans (if_pos rfl));go_enter Tryz.func124, Tryz.ntmps124
   go_wp2_with (first
    | (go_at_call 27; refine (HM.out _ hw0).mono ?_; rintro e w2 ⟨rfl, hst2⟩; have hb2 := zW hw0 hst2; obtain ⟨q0, g0⟩ := blk (HB.out _ hb2).1)
    | (go_at_call 49; refine (HSp.out _ hb2).mono ?_; rintro e w3 ⟨rfl, hst3⟩; have hb3 := zW hb2 hst3; obtain ⟨q1, g1⟩ := blk (HB.out _ hb3).1; have hz3 := hb3.size; have e3 : ¬ w3.heap.size = w.heap.size := qE; have r1 := on2 (HB.out _ hb3).1; have HX3 : Hid (∀ X Y, Below W1.heap.size W1 ((w3.alloc X).alloc Y)) := zA fun X Y => hb3.trans (vI (zE _ _) X Y |>.mono hz3))
    | (go_at_fn g; refine (HG.out _ (HX3.out _ _)).mono ?_; intro e w4 hsaid; obtain ⟨v4, rfl, hv4, hst4⟩ := hsaid; obtain ⟨a4, c4, rfl⟩ := hv4.slice; have hb4 := zW (HX3.out _ _) hst4; have HV4 := zA hv4; clear hv4; obtain ⟨q2, g2⟩ := blk (HB.out _ hb4).1; obtain ⟨q3, g3⟩ := blk (HB.out _ hb4).2))
   refine zM (jU rfl _ _ (w.heap.size + 1) (.slice a4 D.length c4) (.int .i64 s.anc.line) (.int .i64 s.anc.col) (.int .i64 s.foc.line) (.int .i64 s.foc.col) (.int .i64 0) (.int .i64 0) (.int .i64 0) rfl rfl (by simp [jN, jB, (HB.out _ hb4).2])) rfl ?_;unfold StSaid;rw [HR.out];have hfin := H1.out.trans (hb4.mono hs1);have hv4 := HV4.out;exact ⟨_, rfl, (SliceR.stable (zZ _) hv4 zAh (fun b h _ => jM)), by ((with_reducible repeat' first | exact zE _ _ | assumption | refine zG ?_ ?_ _ | refine zH ?_ | refine jK ?_ | refine zF ?_ ?_ _) <;> go_size)⟩
  ·have HR2 : Hid (yY s (D, er) = (noS, er)) := zA (HR.out.trans (if_neg h0))
   have hne : (er != 0) = true := by simpa using h0
   have hne2 : (er == 0) = false := by simpa using h0
   clear h0 HR;go_enter Tryz.func124, Tryz.ntmps124
   go_wp2_with (first
    | (go_at_call 27; refine (HM.out _ hw0).mono ?_; rintro e w2 ⟨rfl, hst2⟩; have hb2 := zW hw0 hst2; obtain ⟨q0, g0⟩ := blk (HB.out _ hb2).1)
    | (go_at_call 49; refine (HSp.out _ hb2).mono ?_; rintro e w3 ⟨rfl, hst3⟩; have hb3 := zW hb2 hst3; obtain ⟨q1, g1⟩ := blk (HB.out _ hb3).1; have hz3 := hb3.size; have e3 : ¬ w3.heap.size = w.heap.size := qE; have r1 := on2 (HB.out _ hb3).1; have HX3 : Hid (∀ X Y, Below W1.heap.size W1 ((w3.alloc X).alloc Y)) := zA fun X Y => hb3.trans (vI (zE _ _) X Y |>.mono hz3))
    | (go_at_fn g; refine (HG.out _ (HX3.out _ _)).mono ?_; intro e w4 hsaid; obtain ⟨v4, rfl, hv4, hst4⟩ := hsaid; obtain ⟨a4, c4, rfl⟩ := hv4.slice; have hb4 := zW (HX3.out _ _) hst4; have HV4 := zA hv4; clear hv4; obtain ⟨q2, g2⟩ := blk (HB.out _ hb4).1; obtain ⟨q3, g3⟩ := blk (HB.out _ hb4).2))
   refine zM (jU rfl _ _ (w.heap.size + 1) (.slice none 0 0) (.int .i64 0) (.int .i64 0) (.int .i64 0) (.int .i64 0) (.int .i64 0) (.int .i64 0) (.int .i64 er) rfl rfl (by simp [jN, jB, (HB.out _ hb4).2])) rfl ?_;unfold StSaid;rw [HR2.out];have hfin := H1.out.trans (hb4.mono hs1);exact ⟨_, rfl, SliceR.nil _ _ _ _ _ _, by ((with_reducible repeat' first | exact zE _ _ | assumption | refine zG ?_ ?_ _ | refine zH ?_ | refine jK ?_ | refine zF ?_ ?_ _) <;> go_size)⟩
set_option maxRecDepth 100000 in
theorem zAQ (v : Value) (s : St) (w : World) (S : Nat → Prop) (h : jC w S v s.lines) (hs : Small s.lines) (ho : -9223372036854775808 ≤ s.on ∧ s.on ≤ 9223372036854775807) (hf : -9223372036854775808 ≤ s.off ∧ s.off ≤ 9223372036854775807) :
  Calls zV 31 #[stV v s] w fun e w' => e = .returned (.bool (mayS s)) ∧ Below w.heap.size w w' := by
 obtain ⟨W1, hW1, hB, hz, hA⟩ := xC w v s;have hs1 := hB.size;have hv := h.below (zZ _) hB;have HC1 := zA (zFx v s.lines W1 S hv hs);have HC2 : Hid (∀ p : Ps, ∀ W, Below W1.heap.size W1 W → Calls zV 57 #[v, .agg #[.int .i64 p.line, .int .i64 p.col]] W fun e w' => e = .returned (.bool (isD s.lines p)) ∧ Below W.heap.size W w') := zA fun p W hW => zFY v s.lines p W S (hv.below (zZ _) hW);have HB : Hid (∀ W, Below W1.heap.size W1 W → W.heap[w.heap.size]? = some (.cells #[v, .int .i64 s.anc.line, .int .i64 s.anc.col, .int .i64 s.foc.line, .int .i64 s.foc.col, .int .i64 s.on, .int .i64 s.off] 26)) := zA fun W hW => jG hW hA;have HE : Hid (mayS s = (mayD s.lines && (isD s.lines s.anc && (isD s.lines s.foc && ((decide (0 ≤ s.on) && decide (s.on ≤ 15)) && ((decide (0 ≤ s.off) && decide (s.off ≤ 15)) && bits .and .i64 s.on s.off == 0)))))) := zA (by unfold mayS; rw [zFP _ ho, zFP _ hf]);have H1 := zA hB;have hw0 : Below W1.heap.size W1 W1 := zE _ _;obtain ⟨p0, f0⟩ := blk hA;obtain ⟨va, vc, rfl⟩ := h.slice;clear h hs hz hA hB hv ho hf
 generalize mayS s = r at *
 generalize mayD s.lines = x at *
 by_cases hq : (0 ≤ s.on ∧ s.on ≤ 15) ∧ (0 ≤ s.off ∧ s.off ≤ 15) ∧ bits .and .i64 s.on s.off = 0
 ·obtain ⟨⟨h1, h2⟩, ⟨h3, h4⟩, h5⟩ := hq
  have HE : Hid (r = (x && (isD s.lines s.anc && isD s.lines s.foc))) := zA (by rw [HE.out]; simp [h1, h2, h3, h4, h5]);have h6 : (bits .and .i64 s.on s.off != 0) = false := by simpa using h5
  clear h5;go_enter Tryz.func31, Tryz.ntmps31
  go_wp2_with (first
   | (go_at_call 56; refine HC1.out.mono ?_; rintro e w2 ⟨rfl, hb2⟩; obtain ⟨p3, f3⟩ := blk (HB.out _ hb2); cases x)
   | (go_at_call 57; refine (HC2.out _ _ qW).mono ?_; rintro e w3 ⟨rfl, hb3⟩; have hx3 : Below W1.heap.size W1 w3 := zW qW hb3; clear hb3; obtain ⟨p5, f5⟩ := blk (HB.out _ hx3)))
  all_goals
   go_ret;refine ⟨?_, H1.out.trans (Below.mono qW hs1)⟩;rw [HE.out];refine congrArg Ending.returned (congrArg Value.bool ?_);clear HE HC1 HC2 HB H1;simp (config := { failIfUnchanged := false }) [*]
 ·have HE : Hid (r = false) := zA (by
   rw [HE.out, Bool.eq_false_iff];intro h;simp at h;exact hq ⟨h.2.2.2.1, h.2.2.2.2.1, h.2.2.2.2.2⟩)
  have hq' : s.on < 0 ∨ (0 ≤ s.on ∧ 15 < s.on) ∨ (0 ≤ s.on ∧ s.on ≤ 15 ∧ s.off < 0) ∨ (0 ≤ s.on ∧ s.on ≤ 15 ∧ 0 ≤ s.off ∧ 15 < s.off) ∨ (0 ≤ s.on ∧ s.on ≤ 15 ∧ 0 ≤ s.off ∧ s.off ≤ 15 ∧ (bits .and .i64 s.on s.off != 0) = true) := by
   by_cases h5 : bits .and .i64 s.on s.off = 0
   ·omega
   ·have h6 : (bits .and .i64 s.on s.off != 0) = true := by simpa using h5
    simp only [h6, and_true]
    omega
  clear hq HC1 HC2;rcases hq' with h1 | ⟨h1, h2⟩ | ⟨h1, h2, h3⟩ | ⟨h1, h2, h3, h4⟩ | ⟨h1, h2, h3, h4, h5⟩
  all_goals
   go_enter Tryz.func31, Tryz.ntmps31;go_wp2_with fail;go_ret;rw [HE.out];exact ⟨rfl, H1.out⟩
set_option maxRecDepth 100000 in
theorem zFV (v : Value) (s : St) (w : World) (S : Nat → Prop) (h : jC w S v s.lines) (hf : Fits s.lines) :
  Calls zV 182 #[stV v s] w fun e w' => ∃ v', e = .returned (stV v' s) ∧ DocR true w' (fun b => w.heap.size ≤ b) v' s.lines ∧ Below w.heap.size w w' := by
 obtain ⟨W1, hW1, hB, hz, k0, k1⟩ := yF w v s;have hs1 := hB.size;have HC := zA (zBy v s.lines W1 w S h hB hf);have HB : Hid (∀ W, Below W1.heap.size W1 W → W.heap[w.heap.size]? = some (.cells #[v, .int .i64 s.anc.line, .int .i64 s.anc.col, .int .i64 s.foc.line, .int .i64 s.foc.col, .int .i64 s.on, .int .i64 s.off] 26) ∧ W.heap[w.heap.size + 1]? = some (.cells #[.slice none 0 0, .int .i64 0, .int .i64 0, .int .i64 0, .int .i64 0, .int .i64 0, .int .i64 0] 26)) := zA fun W hW => ⟨jG hW k0, jG hW k1⟩;have H1 := zA hB;obtain ⟨p0, f0⟩ := blk k0;obtain ⟨va, vc, rfl⟩ := h.slice;clear h hf k0 k1 hB;go_enter Tryz.func182, Tryz.ntmps182;go_wp2_with (go_at_call 167; refine HC.out.mono ?_; rintro e w2 ⟨v2, rfl, hv2, hb2⟩; obtain ⟨a2, c2, rfl⟩ := hv2.slice; obtain ⟨q0, g0⟩ := blk (HB.out _ hb2).1; obtain ⟨q1, g1⟩ := blk (HB.out _ hb2).2; have HV := zA hv2; clear hv2);refine zM (zFv rfl _ _ (w.heap.size + 1) (.slice a2 s.lines.length c2) (.int .i64 s.anc.line) (.int .i64 s.anc.col) (.int .i64 s.foc.line) (.int .i64 s.foc.col) (.int .i64 s.on) (.int .i64 s.off) rfl zBM) rfl ?_;have hfin := H1.out.trans (hb2.mono hs1);have hv2 := HV.out;exact ⟨_, rfl, (SliceR.stable (zZ _) hv2 zAh (fun b h _ => jM)), by ((with_reducible repeat' first | exact zE _ _ | assumption | refine zG ?_ ?_ _ | refine zH ?_ | refine jK ?_ | refine zF ?_ ?_ _) <;> go_size)⟩
end Go.Proofs.YtjgeadoncanheaaGreatDoor
namespace Go.Proofs.Qw
open Go.RowKit Go.Proofs.YtjgeadoncanheaaGreatDoor
def zGT (d : Doc) (p : Ps) : St := ⟨d, p, p, 0, 0⟩
end Go.Proofs.Qw
namespace Go.Proofs.YtjgeadoncanheaaGreatDoor
open Go.RowKit
open Go.Proofs.Qw
attribute [local go_sem] Oper.semAt_some
theorem zML (w : World) (p : Ps) : ∃ W1, (w.alloc (.cells #[.int .i64 p.line, .int .i64 p.col] 24)).alloc (.cells #[.slice none 0 0, .int .i64 0, .int .i64 0, .int .i64 0, .int .i64 0, .int .i64 0, .int .i64 0] 26) = W1 ∧ Below w.heap.size w W1 ∧ w.heap.size + 2 = W1.heap.size ∧ W1.heap[w.heap.size]? = some (.cells #[.int .i64 p.line, .int .i64 p.col] 24) ∧ W1.heap[w.heap.size + 1]? = some (.cells #[.slice none 0 0, .int .i64 0, .int .i64 0, .int .i64 0, .int .i64 0, .int .i64 0, .int .i64 0] 26) :=
 ⟨_, rfl, vI (Below.refl _ _) _ _, by simp, jI _ _ (jF _ _ rfl), jF _ _ qT⟩
set_option maxRecDepth 100000 in
theorem zHE (a : Option Addr) (n c : Nat) (p : Ps) (w : World) :
  Calls Tryz.prog 164 #[.slice a n c, .agg #[.int .i64 p.line, .int .i64 p.col]] w fun e w' => e = .returned (.agg #[.slice a n c, .int .i64 p.line, .int .i64 p.col, .int .i64 p.line, .int .i64 p.col, .int .i64 0, .int .i64 0]) ∧ Below w.heap.size w w' := by
 obtain ⟨W1, hW1, hB, hz, k0, k1⟩ := zML w p;have H1 := Lib.hid hB;have HK := Lib.hid k1;obtain ⟨p0, f0⟩ := blk k0;obtain ⟨p1, f1⟩ := blk k1;clear k0 k1 hB;go_enter Tryz.func164, Tryz.ntmps164;go_wp2_with fail;refine bodyPost_ret (zFv rfl _ _ (w.heap.size + 1) (.slice a n c) (.int .i64 p.line) (.int .i64 p.col) (.int .i64 p.line) (.int .i64 p.col) (.int .i64 0) (.int .i64 0) rfl (by simp [jN, jB, HK.out])) rfl ?_;have hfin := H1.out;exact ⟨rfl, by ((with_reducible repeat' first | exact Below.refl _ _ | assumption | refine Below.alloc ?_ ?_ _ | refine Below.drew ?_ | refine jK ?_ | refine Below.setCell ?_ ?_ _) <;> go_size)⟩
end Go.Proofs.YtjgeadoncanheaaGreatDoor
namespace Go.Proofs.Qw
open Go.RowKit Go.Proofs.YtjgeadoncanheaaGreatDoor
def xO (l : List Int) : Int := l.getLastD (-1)
end Go.Proofs.Qw
namespace Go.Proofs.YtjgeadoncanheaaGreatDoor
open Go.RowKit
open Go.Proofs.Qw
attribute [local go_sem] Oper.semAt_some
open _root_.Go.Lib renaming hid → zA
open _root_.Int renaming natCast_nonneg → zR
theorem zBY (B : Nat) (q k : Int) (l : List Int) (la : Option Addr) (lc : Nat) (cv : Value) (w : World) (S : Nat → Prop) (h : jL false w S (.slice la l.length lc) l) (hB : w.heap[B]? = some (.cells #[.int .i64 q, .slice la l.length lc, .int .i64 k, cv] 47)) :
  Calls Tryz.prog 197 #[.pointer (some ⟨B, 0, none⟩)] w fun e w' => e = .returned (.int .i64 (xO l)) ∧ Below w.heap.size w w' ∧ w'.heap = w.heap := by
 obtain ⟨a, c, he, hc, hm, hx⟩ := zAm h;cases he;obtain ⟨p0, f0⟩ := blk hB;unfold maxLen at hm
 by_cases hn : l = []
 ·subst hn
  have HR : Hid (xO [] = -1) := zA rfl;clear h hx hB;go_enter Tryz.func197, Tryz.ntmps197;go_wp2_with fail;go_ret;rw [HR.out];exact ⟨rfl, Below.refl _ _, rfl⟩
 ·obtain ⟨n, hnl⟩ : ∃ n, l.length = n + 1 := ⟨l.length - 1, by have := List.length_pos_iff.2 hn; omega⟩
  obtain ⟨x, hx0, _⟩ := jJ l n qE;obtain ⟨b, o, rfl, hz, c0⟩ := hx n x hx0
  have HR : Hid (xO l = x) := zA (by
   unfold xO;rw [List.getLastD_eq_getLast?, List.getLast?_eq_getElem?, hnl, Nat.add_sub_cancel, hx0]
   rfl)
  have hl0 : (((n + 1 : Nat) : Int) == 0) = false := by simp; omega
  have e1 : IntKind.i64.wrap (((n + 1 : Nat) : Int) - 1) = (n : Int) := by rw [show (((n + 1 : Nat) : Int) - 1) = (n : Int) by omega]; exact IntWalk.i64_in _ qE
  have i0 : (0 : Int) ≤ (n : Int) := zR _;have i1 : (n : Int) < ((n + 1 : Nat) : Int) := by omega
  rw [hnl] at p0 hc;clear h hx hB hx0 hnl hn;go_enter Tryz.func197, Tryz.ntmps197;go_wp2_with fail;go_quiet (fail);go_wp2_with fail;go_ret;rw [HR.out];exact ⟨rfl, by ((with_reducible repeat' first | exact Below.refl _ _ | assumption | refine Below.alloc ?_ ?_ _ | refine Below.drew ?_ | refine jK ?_ | refine Below.setCell ?_ ?_ _) <;> go_size), rfl⟩
theorem zEP (B : Nat) (q k : Int) (l : List Int) (la : Option Addr) (lc : Nat) (cv : Value) (w : World) (S : Nat → Prop) (h : jL false w S (.slice la l.length lc) l) (hB : w.heap[B]? = some (.cells #[.int .i64 q, .slice la l.length lc, .int .i64 k, cv] 47)) (hne : l ≠ []) (hl : 0 ≤ xO l) :
  Calls Tryz.prog 171 #[.pointer (some ⟨B, 0, none⟩)] w fun e w' => e = .returned (.bool true) ∧ ∃ w1, w1.heap = w.heap ∧ Below w.heap.size w w1 ∧ w' = w1.setCell ⟨B, 1, none⟩ (.slice la (l.length - 1) (l.length - 1)) := by
 have HC := zA (zBY B q k l la lc cv w S h hB);obtain ⟨a, c, he, hc, hm, hx⟩ := zAm h;cases he;obtain ⟨n, hnl⟩ : ∃ n, l.length = n + 1 := ⟨l.length - 1, by have := List.length_pos_iff.2 hne; omega⟩;obtain ⟨x, hx0, _⟩ := jJ l n qE;obtain ⟨b, o, rfl, hz, c0⟩ := hx n x hx0;obtain ⟨r, hr⟩ : ∃ r, xO l = r := ⟨_, rfl⟩;rw [hr] at HC hl;unfold maxLen at hm;have HN : Hid (l.length - 1 = n) := zA qE;have hr0 : ¬ r < 0 := by omega
 have HBB := zA hB;rw [HN.out];rw [hnl] at hc HBB;clear h hx hB hx0 hnl hne hr hl c0 hz HN;have n0 : (0 : Int) ≤ (n : Int) := zR _;have n1 : (n : Int) ≤ lc := by omega
 have n2 : n ≤ lc := by omega
 have n3 : ((n : Int)).toNat = n := Int.toNat_natCast _;go_enter Tryz.func171, Tryz.ntmps171;go_wp2_with (go_at_call 197; refine HC.out.mono ?_; rintro e w1 ⟨rfl, hb1, hh1⟩; have HW1 := zA (And.intro hb1 hh1); have HB1 : Hid (w1.heap[B]? = _) := zA (hh1 ▸ HBB.out); clear hb1 hh1; obtain ⟨p0, f0⟩ := blk HB1.out);go_ret;exact ⟨rfl, w1, HW1.out.2, HW1.out.1, rfl⟩
theorem zFg (B : Nat) (q k : Int) (l : List Int) (la : Option Addr) (lc : Nat) (cv : Value) (w : World) (S : Nat → Prop) (h : jL false w S (.slice la l.length lc) l) (hB : w.heap[B]? = some (.cells #[.int .i64 q, .slice la l.length lc, .int .i64 k, cv] 47)) (hl : xO l < 0) :
  Calls Tryz.prog 171 #[.pointer (some ⟨B, 0, none⟩)] w fun e w' => e = .returned (.bool false) ∧ Below w.heap.size w w' ∧ w'.heap = w.heap := by
 have HC := zA (zBY B q k l la lc cv w S h hB);obtain ⟨r, hr⟩ : ∃ r, xO l = r := ⟨_, rfl⟩;rw [hr] at HC hl;clear h hB hr;go_enter Tryz.func171, Tryz.ntmps171;go_wp2_with (go_at_call 197; refine HC.out.mono ?_; rintro e w1 ⟨rfl, hb1, hh1⟩; have HW1 := zA (And.intro hb1 hh1); clear hb1 hh1);go_ret;exact ⟨rfl, HW1.out.1, HW1.out.2⟩
end Go.Proofs.YtjgeadoncanheaaGreatDoor
namespace Go.Proofs.Qw
open Go.RowKit Go.Proofs.YtjgeadoncanheaaGreatDoor
def xH (l : Lin) : Option Lin := if l.lists ≠ [] then some { l with lists := l.lists.dropLast } else if 0 < l.quote then some { l with quote := l.quote - 1 } else none
def uC (l : Lin) : Option Lin := if l.lists ≠ [] then some { l with lists := l.lists.dropLast } else if 0 < l.kind then some { l with kind := 0 } else if 0 < l.quote then some { l with quote := l.quote - 1 } else none
end Go.Proofs.Qw
namespace Go.Proofs.YtjgeadoncanheaaGreatDoor
open Go.RowKit
open Go.Proofs.Qw
attribute [local go_sem] Oper.semAt_some
open _root_.Go.Lib renaming hid → zA
open _root_.And renaming intro → zB
open _root_.Nat renaming le_refl → zC
open _root_.Go.RowKit.Below renaming refl → zE, setCell → zF, alloc → zG, drew → zH
open _root_.Array renaming getElem?_eq_some_iff → zL
open _root_.Go renaming bodyPost_ret → zM
open _root_.Go.Proofs.Tryz renaming prog → zV
open _root_.Go.Proofs.Qw renaming jX → qB
open _root_.Go.Proofs.Qw.SliceR renaming stable → qG
open _root_.Go.Proofs.Qw.Keeps renaming refl → qM, alloc → qN, drew → qO, set → qP
open _root_.Go.Proofs.YtjgeadoncanheaaGreatDoor renaming jN → qR
theorem zAl {l : Lin} (h : mayL l = true) : 0 ≤ l.quote ∧ l.quote ≤ 6 ∧ l.lists.length ≤ 6 ∧ 0 ≤ l.kind ∧ l.kind ≤ 3 ∧ (l.lists = [] ∨ l.kind = 0) ∧ (∀ k ∈ l.lists, k = 0 ∨ k = 1) ∧ kL l.cells = true := by
 unfold mayL at h;simp only [Bool.and_eq_true, Bool.or_eq_true, decide_eq_true_eq, List.all_eq_true] at h;obtain ⟨⟨⟨⟨⟨⟨⟨h1, h2⟩, h3⟩, h4⟩, h5⟩, h6⟩, h7⟩, h8⟩ := h;exact ⟨h1, h2, h3, h4, h5, h6, h7, h8⟩
theorem zCn {l : Lin} (h : mayL l = true) (hne : l.lists ≠ []) : 0 ≤ xO l.lists := by
 obtain ⟨_, _, _, _, _, _, h7, _⟩ := zAl h;unfold xO;rw [List.getLastD_eq_getLast?, List.getLast?_eq_some_getLast hne];rcases h7 _ (List.getLast_mem hne) with e | e <;> simp [e]
def TurnPost (B : Nat) (l : Lin) (la : Option Addr) (lc : Nat) (cv : Value) (w : World) (r : Option Lin) (e : Ending) (w' : World) : Prop :=
 e = .returned (.bool r.isSome) ∧ (∃ q k n c, w'.heap[B]? = some (.cells #[.int .i64 q, .slice la n c, .int .i64 k, cv] 47) ∧ ∀ l', r = some l' → l'.quote = q ∧ l'.kind = k ∧ l'.lists = l.lists.take n ∧ l'.cells = l.cells ∧ n ≤ l.lists.length ∧ n ≤ c ∧ c ≤ lc) ∧
  (∀ b, b < w.heap.size → b ≠ B → w'.heap[b]? = w.heap[b]?) ∧ w.heap.size ≤ w'.heap.size ∧ Below B w w'
theorem TurnPost.mk' {B : Nat} {l : Lin} {la : Option Addr} {lc : Nat} {cv : Value} {w w1 w' : World} {r : Option Lin} {e : Ending} (he : e = .returned (.bool r.isSome)) (hB : B < w.heap.size) (h1 : Below w.heap.size w w1) (ho : ∀ b, b ≠ B → w'.heap[b]? = w1.heap[b]?) (hs : w'.heap.size = w1.heap.size) (hb : Below B w1 w')
  (q k : Int) (n c : Nat) (hq : w'.heap[B]? = some (.cells #[.int .i64 q, .slice la n c, .int .i64 k, cv] 47)) (hl : ∀ l', r = some l' → l'.quote = q ∧ l'.kind = k ∧ l'.lists = l.lists.take n ∧ l'.cells = l.cells ∧ n ≤ l.lists.length ∧ n ≤ c ∧ c ≤ lc) : TurnPost B l la lc cv w r e w' :=
 ⟨he, ⟨q, k, n, c, hq, hl⟩, fun b hbz hne => (ho b hne).trans (h1.block b hbz), by rw [hs]; exact h1.size, (h1.mono (Nat.le_of_lt hB)).trans hb⟩
theorem zIx (B : Nat) (l : Lin) (la : Option Addr) (lc : Nat) (cv : Value) (w : World) (S : Nat → Prop) (hm : mayL l = true) (h : jL false w S (.slice la l.lists.length lc) l.lists) (hB : w.heap[B]? = some (.cells #[.int .i64 l.quote, .slice la l.lists.length lc, .int .i64 l.kind, cv] 47)) :
  Calls zV 170 #[.pointer (some ⟨B, 0, none⟩)] w (TurnPost B l la lc cv w (xH l)) := by
 have hBz : B < w.heap.size := (zL.1 hB).1;obtain ⟨hq0, hq6, _⟩ := zAl hm;have hlen := h.len
 by_cases hn : l.lists = []
 ·have HL := zA (zFg B l.quote l.kind l.lists la lc cv w S h hB (by rw [hn]; decide))
  have HR : Hid (xH l = if 0 < l.quote then some { l with quote := l.quote - 1 } else none) := zA (by unfold xH; rw [if_neg (fun e => e hn)]);have HB := zA hB;have HN := zA hn;have HE := zA hlen;have w1 : IntKind.i64.wrap (l.quote - 1) = l.quote - 1 := IntWalk.i64_in _ qE;clear h hB hn hlen;go_enter Tryz.func170, Tryz.ntmps170;go_wp2_with (go_at_call 171; refine HL.out.mono ?_; rintro e w2 ⟨rfl, hb2, hh2⟩; have HW2 := zA (zB hb2 hh2); have HB2 : Hid (w2.heap[B]? = _) := zA (hh2 ▸ HB.out); clear hb2 hh2; obtain ⟨p0, f0⟩ := blk HB2.out);go_ret;rw [HR.out];refine TurnPost.mk' ?_ hBz HW2.out.1 (fun b hb => by simp [qR, Ne.symm hb]) qT (by exact zF (p := ⟨B, 0, none⟩) (zE B _) (zC B) _) (l.quote - 1) l.kind l.lists.length lc (by simp [qR, jB, HB2.out]) ?_
  ·split <;> simp <;> omega
  ·intro l' hl'
   split at hl'
   ·cases hl'
    exact ⟨rfl, rfl, by simp, rfl, zC _, HE.out.2.1, zC _⟩
   ·cases hl'
 ·have HL := zA (zEP B l.quote l.kind l.lists la lc cv w S h hB hn (zCn hm hn))
  have HR : Hid (xH l = some { l with lists := l.lists.dropLast }) := zA (by unfold xH; rw [if_pos hn]);have HB := zA hB;have HE := zA hlen;clear h hB hn hlen;go_enter Tryz.func170, Tryz.ntmps170;go_wp2_with (go_at_call 171; refine HL.out.mono ?_; rintro e w2 ⟨rfl, w3, hh3, hb3, rfl⟩; have HW3 := zA (zB hb3 hh3); clear hb3 hh3);go_ret;rw [HR.out];refine TurnPost.mk' rfl hBz HW3.out.1 (fun b hb => by simp [qR, Ne.symm hb]) qT (by exact zF (p := ⟨B, 1, none⟩) (zE B _) (zC B) _) l.quote l.kind (l.lists.length - 1) (l.lists.length - 1) (by have := HW3.out.2 ▸ HB.out; simp [qR, jB, this]) ?_;intro l' hl';cases hl';exact ⟨rfl, rfl, by rw [List.dropLast_eq_take], rfl, by omega, zC _, by have := HE.out; omega⟩
theorem zLa (B : Nat) (l : Lin) (la : Option Addr) (lc : Nat) (cv : Value) (w : World) (S : Nat → Prop) (hm : mayL l = true) (h : jL false w S (.slice la l.lists.length lc) l.lists) (hB : w.heap[B]? = some (.cells #[.int .i64 l.quote, .slice la l.lists.length lc, .int .i64 l.kind, cv] 47)) :
  Calls zV 174 #[.pointer (some ⟨B, 0, none⟩)] w (TurnPost B l la lc cv w (uC l)) := by
 have hBz : B < w.heap.size := (zL.1 hB).1;obtain ⟨hq0, hq6, _, hk0, hk3, _⟩ := zAl hm;have hlen := h.len
 by_cases hn : l.lists = []
 ·have HL := zA (zFg B l.quote l.kind l.lists la lc cv w S h hB (by rw [hn]; decide))
  have HR : Hid (uC l = if 0 < l.kind then some { l with kind := 0 } else if 0 < l.quote then some { l with quote := l.quote - 1 } else none) := zA (by unfold uC; rw [if_neg (fun e => e hn)]);have HB := zA hB;have HN := zA hn;have HE := zA hlen;have w1 : IntKind.i64.wrap (l.quote - 1) = l.quote - 1 := IntWalk.i64_in _ qE;clear h hB hn hlen;rcases (show (0 < l.kind) ∨ (¬ 0 < l.kind ∧ 0 < l.quote) ∨ (¬ 0 < l.kind ∧ ¬ 0 < l.quote) by omega) with hk | ⟨hk, hq⟩ | ⟨hk, hq⟩
  ·rw [if_pos hk] at HR
   go_enter Tryz.func174, Tryz.ntmps174;go_wp2_with (go_at_call 171; refine HL.out.mono ?_; rintro e w2 ⟨rfl, hb2, hh2⟩; have HW2 := zA (zB hb2 hh2); have HB2 : Hid (w2.heap[B]? = _) := zA (hh2 ▸ HB.out); clear hb2 hh2; obtain ⟨p0, f0⟩ := blk HB2.out);go_ret;rw [HR.out];refine TurnPost.mk' rfl hBz HW2.out.1 (fun b hb => by simp [qR, Ne.symm hb]) qT (by exact zF (p := ⟨B, 2, none⟩) (zE B _) (zC B) _) l.quote 0 l.lists.length lc (by simp [qR, jB, HB2.out]) ?_;intro l' hl';cases hl';exact ⟨rfl, rfl, by simp, rfl, zC _, HE.out.2.1, zC _⟩
  ·rw [if_neg hk, if_pos hq] at HR
   go_enter Tryz.func174, Tryz.ntmps174;go_wp2_with (go_at_call 171; refine HL.out.mono ?_; rintro e w2 ⟨rfl, hb2, hh2⟩; have HW2 := zA (zB hb2 hh2); have HB2 : Hid (w2.heap[B]? = _) := zA (hh2 ▸ HB.out); clear hb2 hh2; obtain ⟨p0, f0⟩ := blk HB2.out);go_ret;rw [HR.out];refine TurnPost.mk' rfl hBz HW2.out.1 (fun b hb => by simp [qR, Ne.symm hb]) qT (by exact zF (p := ⟨B, 0, none⟩) (zE B _) (zC B) _) (l.quote - 1) l.kind l.lists.length lc (by simp [qR, jB, HB2.out]) ?_;intro l' hl';cases hl';exact ⟨rfl, rfl, by simp, rfl, zC _, HE.out.2.1, zC _⟩
  ·rw [if_neg hk, if_neg hq] at HR
   go_enter Tryz.func174, Tryz.ntmps174;go_wp2_with (go_at_call 171; refine HL.out.mono ?_; rintro e w2 ⟨rfl, hb2, hh2⟩; have HW2 := zA (zB hb2 hh2); have HB2 : Hid (w2.heap[B]? = _) := zA (hh2 ▸ HB.out); clear hb2 hh2; obtain ⟨p0, f0⟩ := blk HB2.out);go_ret;rw [HR.out];refine TurnPost.mk' rfl hBz HW2.out.1 (fun b _ => rfl) rfl (zE _ _) l.quote l.kind l.lists.length lc HB2.out ?_;intro l' hl';cases hl'
 ·have HL := zA (zEP B l.quote l.kind l.lists la lc cv w S h hB hn (zCn hm hn))
  have HR : Hid (uC l = some { l with lists := l.lists.dropLast }) := zA (by unfold uC; rw [if_pos hn]);have HB := zA hB;have HE := zA hlen;clear h hB hn hlen;go_enter Tryz.func174, Tryz.ntmps174;go_wp2_with (go_at_call 171; refine HL.out.mono ?_; rintro e w2 ⟨rfl, w3, hh3, hb3, rfl⟩; have HW3 := zA (zB hb3 hh3); clear hb3 hh3);go_ret;rw [HR.out];refine TurnPost.mk' rfl hBz HW3.out.1 (fun b hb => by simp [qR, Ne.symm hb]) qT (by exact zF (p := ⟨B, 1, none⟩) (zE B _) (zC B) _) l.quote l.kind (l.lists.length - 1) (l.lists.length - 1) (by have := HW3.out.2 ▸ HB.out; simp [qR, jB, this]) ?_;intro l' hl';cases hl';exact ⟨rfl, rfl, by rw [List.dropLast_eq_take], rfl, by omega, zC _, by have := HE.out; omega⟩
theorem xZ {fn : Func} {p u : Tmp} (h : fn.results = #[.cell p 47, .tmp u]) (tmps : Array Value) (w : World) (B : Nat) (x1 x2 x3 x4 : Value) (hp : tmps.getD p undef = .pointer (some ⟨B, 0, none⟩))
  (hB : w.heap[B]? = some (.cells #[x1, x2, x3, x4] 47)) :
  (results fn tmps).run zV w = .ok (.tuple #[.agg #[x1, x2, x3, x4], tmps.getD u undef]) w := by
 have h1 := run_loadVar_row (P := zV) w B 47 47 _ _ _ hB Tryz.underlying47 rfl qC;have hp' : tmps[p]?.getD undef = .pointer (some ⟨B, 0, none⟩) := by simpa using hp
 simp [results, h, hp', asAddr, h1]
def vO (w : World) (r : Option Lin) (e : Ending) (w' : World) : Prop :=
 (∀ l', r = some l' → ∃ a' b', e = .returned (.tuple #[linV l' a' b', .int .i64 0]) ∧ jL true w' (fun b => w.heap.size ≤ b) a' l'.lists ∧ jE true w' (fun b => w.heap.size ≤ b) b' l'.cells) ∧
  (r = none → e = .returned (.tuple #[.agg #[.int .i64 0, .slice none 0 0, .int .i64 0, .slice none 0 0], .int .i64 7])) ∧ Below w.heap.size w w'
set_option maxRecDepth 100000 in
theorem zFr (g : Nat) (T : Lin → Option Lin) (eg : ∀ args w, (callFunc g args).run zV w = .ok (.enter g args) w)
  (HT : ∀ (B : Nat) (l : Lin) (la : Option Addr) (lc : Nat) (cv : Value) (w : World) (S : Nat → Prop), mayL l = true → jL false w S (.slice la l.lists.length lc) l.lists → w.heap[B]? = some (.cells #[.int .i64 l.quote, .slice la l.lists.length lc, .int .i64 l.kind, cv] 47) →
   Calls zV g #[.pointer (some ⟨B, 0, none⟩)] w (TurnPost B l la lc cv w (T l)))
  (l : Lin) (la ca : Option Addr) (lc cc : Nat) (w w0 : World) (S : Nat → Prop) (hL : jL false w0 S (.slice la l.lists.length lc) l.lists) (hC : jE false w0 S (.slice ca l.cells.length cc) l.cells) (h0 : Below w0.heap.size w0 w)
  (he : EnvT w) (hs : l.lists.length ≤ 1000000 ∧ l.cells.length ≤ 1000000) (hh : ∀ c ∈ l.cells, c.href.length ≤ 1000000) (hm : mayL l = true) :
  Calls zV 169 #[linV l (.slice la l.lists.length lc) (.slice ca l.cells.length cc), .func (.func g) #[] #[]] w (vO w (T l)) := by
 obtain ⟨W1, hW1, hB, hz, hA1, hA2⟩ := uX w (.int .i64 l.quote) (.slice la l.lists.length lc) (.int .i64 l.kind) (.slice ca l.cells.length cc) (.int .i64 0) (.slice none 0 0) (.int .i64 0) (.slice none 0 0);have h01 : Below w0.heap.size w0 W1 := jH h0 hB;have HM := zA (zCd l la ca lc cc W1 w0 S hL hC (he.below hB) h01 hh);rw [hm] at HM;have HO : Hid (∀ W, Below w0.heap.size w0 W → Calls zV 212 #[linV l (.slice la l.lists.length lc) (.slice ca l.cells.length cc)] W fun e w' => ∃ a' b', e = .returned (linV l a' b') ∧ jL true w' (fun b => W.heap.size ≤ b) a' l.lists ∧ jE true w' (fun b => W.heap.size ≤ b) b' l.cells ∧ Below W.heap.size W w') := zA fun W hW => zBu l _ _ false false W w0 S hL hC hW hs;have HG : Hid (∀ (B : Nat) (la : Option Addr) (lc : Nat) (cv : Value) (w : World) (S : Nat → Prop), jL false w S (.slice la l.lists.length lc) l.lists → w.heap[B]? = some (.cells #[.int .i64 l.quote, .slice la l.lists.length lc, .int .i64 l.kind, cv] 47) → Calls zV g #[.pointer (some ⟨B, 0, none⟩)] w (TurnPost B l la lc cv w (T l))) := zA fun B la lc cv w S h1 h2 => HT B l la lc cv w S hm h1 h2;have hs1 := hB.size;have HB0 : Hid (∀ W, Below W1.heap.size W1 W → W.heap[w.heap.size]? = some (.cells #[.int .i64 l.quote, .slice la l.lists.length lc, .int .i64 l.kind, .slice ca l.cells.length cc] 47) ∧ W.heap[w.heap.size + 1]? = some (.cells #[.int .i64 0, .slice none 0 0, .int .i64 0, .slice none 0 0] 47)) := zA fun W hW => ⟨jG hW hA1, jG hW hA2⟩;have H1 := zA hB;have H01 := zA h01;obtain ⟨p1, f1⟩ := blk hA1;obtain ⟨p2, f2⟩ := blk hA2;obtain ⟨r, hr⟩ : ∃ r, T l = r := ⟨_, rfl⟩;rw [hr] at HG ⊢;clear hL hC hs hB h0 HT hr hm he h01;unfold linV at HO ⊢;go_enter Tryz.func169, Tryz.ntmps169;go_wp2_with (first | (go_at_call 91; refine HM.out.mono ?_; rintro e w2 ⟨rfl, hb2⟩; obtain ⟨hA3, hA4⟩ := HB0.out _ hb2; obtain ⟨q0, g0⟩ := blk hA3; obtain ⟨q1, g1⟩ := blk hA4) | (go_at_call 212; refine (HO.out _ (jH H01.out hb2)).mono ?_; rintro e w3 ⟨a', b', rfl, ha', hb', hb3⟩; obtain ⟨a1, c1, rfl⟩ := ha'.slice; obtain ⟨a2, c2, rfl⟩ := hb'.slice; obtain ⟨hA5, hA6⟩ := HB0.out _ (jH hb2 hb3); obtain ⟨p3, f3⟩ := blk hA5; obtain ⟨p4, f4⟩ := blk hA6));obtain ⟨Y, hY, hYB, hYs, hYo, hYb⟩ := kA w3 w.heap.size 47 _ _ _ _ (.int .i64 l.quote) (.slice a1 l.lists.length c1) (.int .i64 l.kind) (.slice a2 l.cells.length c2) hA5;have hx2 := jH H1.out hb2;have hx3 : Below w.heap.size w w3 := jH hx2 hb3;have hn3 : w.heap.size + 2 ≤ w2.heap.size := by have := hb2.size; omega
 have hle3 := hb3.size;have hiY : jL true Y (fun b => w2.heap.size ≤ b) (.slice a1 l.lists.length c1) l.lists := qG (qB _) ha' (Keeps.only hYs hYo jD) (fun b h _ => h);have hcY : jE true Y (fun b => w2.heap.size ≤ b) (.slice a2 l.cells.length c2) l.cells := qG (qB _) hb' (Keeps.only hYs hYo jD) (fun b h _ => h);have hcl := hiY.len;rw [hY];have hA7 : Y.heap[w.heap.size + 1]? = some (.cells #[.int .i64 0, .slice none 0 0, .int .i64 0, .slice none 0 0] 47) := (hYo _ qE).trans hA6;refine (HG.out w.heap.size a1 c1 (.slice a2 l.cells.length c2) Y (fun b => w2.heap.size ≤ b) (SliceR.read (fun _ _ h => h) hiY) hYB).mono ?_;rintro e w4 ⟨rfl, ⟨q, k, n, c, h4, hl4⟩, ho4, hz4, hb4⟩;have hA8 := (ho4 (w.heap.size + 1) qE qE).trans hA7;have hi4 : jL true w4 (fun b => w2.heap.size ≤ b) (.slice a1 l.lists.length c1) l.lists := qG (qB _) hiY ⟨hz4, fun b hb hz => ho4 b hz qE⟩ (fun b h _ => h);have hc4 : jE true w4 (fun b => w2.heap.size ≤ b) (.slice a2 l.cells.length c2) l.cells := qG (qB _) hcY ⟨hz4, fun b hb hz => ho4 b hz qE⟩ (fun b h _ => h);have hx4 : Below w.heap.size w w4 := (hYb _ (zC _) w hx3).trans hb4;have HI := zA hi4;have HCC := zA hc4;have HX4 := zA hx4;clear hi4 hc4 hx4 hiY hcY hYB hYo hYb ha' hb' ho4 hb4 HG HO HM hx2 hx3;obtain ⟨p5, f5⟩ := blk h4;obtain ⟨p6, f6⟩ := blk hA8;clear p1 f1 p2 f2 q0 g0 q1 g1 p3 f3 p4 f4 hY;cases r with
 | none =>
  go_wp2_with fail;refine zM (xZ rfl _ _ (w.heap.size + 1) (.int .i64 0) (.slice none 0 0) (.int .i64 0) (.slice none 0 0) rfl (by simp [qR, jB, hA8])) rfl ?_;refine ⟨fun l' h => xE, fun _ => rfl, ?_⟩;have := HX4.out
  ((with_reducible repeat' first | exact zE _ _ | assumption | refine zG ?_ ?_ _ | refine zH ?_ | refine jK ?_ | refine zF ?_ ?_ _) <;> go_size)
 | some l' =>
  obtain ⟨rfl, rfl, e3, e4, e5, e6, e7⟩ := hl4 l' rfl;have HE := zA (zB e3 e4);clear hl4 e3 e4;go_wp2_with fail;refine zM (xZ rfl _ _ (w.heap.size + 1) (.int .i64 l'.quote) (.slice a1 n c) (.int .i64 l'.kind) (.slice a2 l.cells.length c2) rfl (by simp [qR, jB, hA8])) rfl ?_;refine ⟨fun l'' h => ?_, fun h => xE, ?_⟩
  ·cases h
   refine ⟨_, _, rfl, ?_, ?_⟩
   ·rw [HE.out.1]
    have hh := SliceR.caps (HI.out.take e5) (m := c) zAi e7;exact (qG (qB _) hh jP (fun b h _ => jM))
   ·rw [HE.out.2]
    have hh := HCC.out;exact (qG (qB _) hh jP (fun b h _ => jM))
  ·have := HX4.out
   ((with_reducible repeat' first | exact zE _ _ | assumption | refine zG ?_ ?_ _ | refine zH ?_ | refine jK ?_ | refine zF ?_ ?_ _) <;> go_size)
theorem zCY (l : Lin) (la ca : Option Addr) (lc cc : Nat) (w w0 : World) (S : Nat → Prop) (hL : jL false w0 S (.slice la l.lists.length lc) l.lists) (hC : jE false w0 S (.slice ca l.cells.length cc) l.cells) (h0 : Below w0.heap.size w0 w)
  (he : EnvT w) (hs : l.lists.length ≤ 1000000 ∧ l.cells.length ≤ 1000000) (hh : ∀ c ∈ l.cells, c.href.length ≤ 1000000) (hm : mayL l = true) :
  Calls zV 115 #[linV l (.slice la l.lists.length lc) (.slice ca l.cells.length cc)] w (vO w (xH l)) := by
 obtain ⟨W1, hW1, hB, hz, hA1, hA2⟩ := uX w (.int .i64 l.quote) (.slice la l.lists.length lc) (.int .i64 l.kind) (.slice ca l.cells.length cc) (.int .i64 0) (.slice none 0 0) (.int .i64 0) (.slice none 0 0);have HT := zA (zFr 170 xH (enters_of Tryz.func170 qC rfl) zIx l la ca lc cc W1 w0 S hL hC (jH h0 hB) (he.below hB) hs hh hm);have hs1 := hB.size;have HB0 : Hid (∀ W, Below W1.heap.size W1 W → W.heap[w.heap.size]? = some (.cells #[.int .i64 l.quote, .slice la l.lists.length lc, .int .i64 l.kind, .slice ca l.cells.length cc] 47) ∧ W.heap[w.heap.size + 1]? = some (.cells #[.int .i64 0, .slice none 0 0, .int .i64 0, .slice none 0 0] 47)) := zA fun W hW => ⟨jG hW hA1, jG hW hA2⟩;have H1 := zA hB;obtain ⟨p1, f1⟩ := blk hA1;obtain ⟨p2, f2⟩ := blk hA2;obtain ⟨r, hr⟩ : ∃ r, xH l = r := ⟨_, rfl⟩;rw [hr] at HT ⊢;clear hL hC hs hB h0 hr hm he;unfold linV at HT ⊢;cases r with
 | none =>
  go_enter Tryz.func115, Tryz.ntmps115;go_wp2_with (go_at_call 169; refine HT.out.mono ?_; rintro e w2 ⟨_, he2, hb2⟩; obtain rfl := he2 rfl; obtain ⟨hA3, hA4⟩ := HB0.out _ hb2; obtain ⟨q0, g0⟩ := blk hA3; obtain ⟨q1, g1⟩ := blk hA4);refine zM (xZ rfl _ _ (w.heap.size + 1) (.int .i64 0) (.slice none 0 0) (.int .i64 0) (.slice none 0 0) rfl yU) rfl ?_;refine ⟨fun l' h => xE, fun _ => rfl, ?_⟩;have := H1.out.trans (hb2.mono hs1)
  ((with_reducible repeat' first | exact zE _ _ | assumption | refine zG ?_ ?_ _ | refine zH ?_ | refine jK ?_ | refine zF ?_ ?_ _) <;> go_size)
 | some l' =>
  go_enter Tryz.func115, Tryz.ntmps115;go_wp2_with (go_at_call 169; refine HT.out.mono ?_; rintro e w2 ⟨he2, _, hb2⟩; obtain ⟨a', b', rfl, ha', hb'⟩ := he2 _ rfl; obtain ⟨a1, c1, rfl⟩ := ha'.slice; obtain ⟨a2, c2, rfl⟩ := hb'.slice; obtain ⟨hA3, hA4⟩ := HB0.out _ hb2; obtain ⟨q0, g0⟩ := blk hA3; obtain ⟨q1, g1⟩ := blk hA4);refine zM (xZ rfl _ _ (w.heap.size + 1) (.int .i64 l'.quote) (.slice a1 l'.lists.length c1) (.int .i64 l'.kind) (.slice a2 l'.cells.length c2) rfl yU) rfl ?_;refine ⟨fun l'' h => ?_, fun h => xE, ?_⟩
  ·cases h
   exact ⟨_, _, rfl, (qG (qB _) ha' jP (fun b h _ => jM)), (qG (qB _) hb' jP (fun b h _ => jM))⟩
  ·have := H1.out.trans (hb2.mono hs1)
   ((with_reducible repeat' first | exact zE _ _ | assumption | refine zG ?_ ?_ _ | refine zH ?_ | refine jK ?_ | refine zF ?_ ?_ _) <;> go_size)
theorem zIB (l : Lin) (la ca : Option Addr) (lc cc : Nat) (w w0 : World) (S : Nat → Prop) (hL : jL false w0 S (.slice la l.lists.length lc) l.lists) (hC : jE false w0 S (.slice ca l.cells.length cc) l.cells) (h0 : Below w0.heap.size w0 w)
  (he : EnvT w) (hs : l.lists.length ≤ 1000000 ∧ l.cells.length ≤ 1000000) (hh : ∀ c ∈ l.cells, c.href.length ≤ 1000000) (hm : mayL l = true) :
  Calls zV 118 #[linV l (.slice la l.lists.length lc) (.slice ca l.cells.length cc)] w (vO w (uC l)) := by
 obtain ⟨W1, hW1, hB, hz, hA1, hA2⟩ := uX w (.int .i64 l.quote) (.slice la l.lists.length lc) (.int .i64 l.kind) (.slice ca l.cells.length cc) (.int .i64 0) (.slice none 0 0) (.int .i64 0) (.slice none 0 0);have HT := zA (zFr 174 uC (enters_of Tryz.func174 qC rfl) zLa l la ca lc cc W1 w0 S hL hC (jH h0 hB) (he.below hB) hs hh hm);have hs1 := hB.size;have HB0 : Hid (∀ W, Below W1.heap.size W1 W → W.heap[w.heap.size]? = some (.cells #[.int .i64 l.quote, .slice la l.lists.length lc, .int .i64 l.kind, .slice ca l.cells.length cc] 47) ∧ W.heap[w.heap.size + 1]? = some (.cells #[.int .i64 0, .slice none 0 0, .int .i64 0, .slice none 0 0] 47)) := zA fun W hW => ⟨jG hW hA1, jG hW hA2⟩;have H1 := zA hB;obtain ⟨p1, f1⟩ := blk hA1;obtain ⟨p2, f2⟩ := blk hA2;obtain ⟨r, hr⟩ : ∃ r, uC l = r := ⟨_, rfl⟩;rw [hr] at HT ⊢;clear hL hC hs hB h0 hr hm he;unfold linV at HT ⊢;cases r with
 | none =>
  go_enter Tryz.func118, Tryz.ntmps118;go_wp2_with (go_at_call 169; refine HT.out.mono ?_; rintro e w2 ⟨_, he2, hb2⟩; obtain rfl := he2 rfl; obtain ⟨hA3, hA4⟩ := HB0.out _ hb2; obtain ⟨q0, g0⟩ := blk hA3; obtain ⟨q1, g1⟩ := blk hA4);refine zM (xZ rfl _ _ (w.heap.size + 1) (.int .i64 0) (.slice none 0 0) (.int .i64 0) (.slice none 0 0) rfl yU) rfl ?_;refine ⟨fun l' h => xE, fun _ => rfl, ?_⟩;have := H1.out.trans (hb2.mono hs1)
  ((with_reducible repeat' first | exact zE _ _ | assumption | refine zG ?_ ?_ _ | refine zH ?_ | refine jK ?_ | refine zF ?_ ?_ _) <;> go_size)
 | some l' =>
  go_enter Tryz.func118, Tryz.ntmps118;go_wp2_with (go_at_call 169; refine HT.out.mono ?_; rintro e w2 ⟨he2, _, hb2⟩; obtain ⟨a', b', rfl, ha', hb'⟩ := he2 _ rfl; obtain ⟨a1, c1, rfl⟩ := ha'.slice; obtain ⟨a2, c2, rfl⟩ := hb'.slice; obtain ⟨hA3, hA4⟩ := HB0.out _ hb2; obtain ⟨q0, g0⟩ := blk hA3; obtain ⟨q1, g1⟩ := blk hA4);refine zM (xZ rfl _ _ (w.heap.size + 1) (.int .i64 l'.quote) (.slice a1 l'.lists.length c1) (.int .i64 l'.kind) (.slice a2 l'.cells.length c2) rfl yU) rfl ?_;refine ⟨fun l'' h => ?_, fun h => xE, ?_⟩
  ·cases h
   exact ⟨_, _, rfl, (qG (qB _) ha' jP (fun b h _ => jM)), (qG (qB _) hb' jP (fun b h _ => jM))⟩
  ·have := H1.out.trans (hb2.mono hs1)
   ((with_reducible repeat' first | exact zE _ _ | assumption | refine zG ?_ ?_ _ | refine zH ?_ | refine jK ?_ | refine zF ?_ ?_ _) <;> go_size)
end Go.Proofs.YtjgeadoncanheaaGreatDoor
namespace Go.Proofs.Qw
open Go.RowKit Go.Proofs.YtjgeadoncanheaaGreatDoor
open _root_.List renaming getElem?_eq_some_iff → zK
def zCF (c : Int) : Option Int := if c = 9 ∨ c = 12 ∨ c = 13 then some 32 else if c = 10 then some 10 else if uQ c = 1 then none else some c
def vH (t : ByteArray) : List Int := (kC t).filterMap zCF
def cellsOf (l : List Int) (b : Int) (h : List UInt8) : List Cel := l.map fun c => ⟨c, b, h⟩
def outS (s : St) : Doc := zAu s.lines (qV s).1 (qV s).2
def endS (x : Doc × Ps × Int) : St × Int := if x.2.2 = 0 then (zGT x.1 x.2.1, 0) else (noS, x.2.2)
def keyS (s : St) (x : Doc × Ps × Int) : St × Int := if mayS s = true then endS x else (noS, 1)
def yG (d : Doc) (p : Ps) : Lin := d.getD p.line.toNat default
def zBk (l : List Cel) (b : Int) : Int := match l with | [] => b | c :: _ => c.bits
def typB (s : St) : Int := bits .or .i64 (bits .andNot .i64 (zBk (cellsD s.lines (qV s).1 (qV s).2) (kO (yG s.lines (qV s).1).cells (qV s).1.col.toNat).1) s.off) s.on
def uS (s : St) (t : ByteArray) : Doc × Ps × Int :=
 if 8192 < t.size then ([], (qV s).1, 10) else if vH t = [] then ([], (qV s).1, 7)
 else vR (cellsOf (vH t) (typB s) (kO (yG (outS s) (qV s).1).cells (qV s).1.col.toNat).2) (outS s) (qV s).1
def putK (d : Doc) (p : Ps) (r : Option Lin) (x : Doc × Ps × Int) : Doc × Ps × Int := match r with | some l => (d.set p.line.toNat l, p, 0) | none => x
def zCG (s : St) : Doc × Ps × Int :=
 putK (outS s) (qV s).1 (if (yG (outS s) (qV s).1).cells = [] then xH (yG (outS s) (qV s).1) else none) (uK (outS s) (qV s).1)
def cutK (d : Doc) (a b p : Ps) : Doc × Ps × Int := ((yK d a b).1, p, (yK d a b).2)
def zAy (s : St) : Doc × Ps × Int :=
 if s.anc = s.foc then
  putK (outS s) (qV s).1 (if (qV s).1.col = 0 then uC (yG (outS s) (qV s).1) else none)
   (if (xR (outS s) (qV s).1 (-1)).2 = true then cutK (outS s) (xR (outS s) (qV s).1 (-1)).1 (qV s).1 (xR (outS s) (qV s).1 (-1)).1 else ([], (qV s).1, 7))
 else (outS s, (qV s).1, 0)
def zBf (s : St) : Doc × Ps × Int :=
 if s.anc = s.foc then
  (if (xR (outS s) (qV s).1 1).2 = true then cutK (outS s) (qV s).1 (xR (outS s) (qV s).1 1).1 (qV s).1 else ([], (qV s).1, 7))
 else (outS s, (qV s).1, 0)
theorem uN {s : St} (h : mayS s = true) : mayD (outS s) = true ∧ kK s.lines (qV s).1 (qV s).2 = true ∧ isD (outS s) (qV s).1 = true ∧ yK s.lines (qV s).1 (qV s).2 = (outS s, 0) ∧ isD s.lines (qV s).1 = true := by
 have hsp := zGa h;obtain ⟨hM, i, j, p, q, l, m, ha, hb, hl, hm, hp, hq, hij, hpq⟩ := uI hsp;have hd : yK s.lines (qV s).1 (qV s).2 = (outS s, 0) := by unfold yK; rw [if_pos hsp]; rfl
 refine ⟨?_, hsp, ?_, hd, ?_⟩
 ·unfold outS; rw [ha, hb]; exact zKo hM hl hm hp hq hij hpq
 ·unfold outS; rw [ha, hb]
  exact zGZ (d := zAu s.lines ⟨i, p⟩ ⟨j, q⟩) (l := { l with cells := l.cells.take p ++ m.cells.drop q }) (by rw [zKp hl hm, if_neg (Nat.lt_irrefl _), if_pos rfl]) jD
 ·rw [ha]; exact zGZ hl hp
theorem zKW {d : Doc} {i : Nat} {l : Lin} (hl : d[i]? = some l) (j : Int) : yG d ⟨i, j⟩ = l := by
 unfold yG;simp only [Int.toNat_natCast];rw [List.getD_eq_getElem?_getD, hl]
 rfl
theorem zCE {d : Doc} {p : Ps} (h : mayD d = true) (hp : isD d p = true) : ∃ (i j : Nat) (l : Lin), p = ⟨i, j⟩ ∧ d[i]? = some l ∧ j ≤ l.cells.length ∧ mayL l = true ∧ yG d p = l := by
 obtain ⟨i, j, l, rfl, hl, hj⟩ := zMr hp;exact ⟨i, j, l, rfl, hl, hj, (uY.1 h).2.2.2 l (vL hl), zKW hl _⟩
theorem zFE {l : Lin} (h : mayL l = true) : 0 ≤ l.quote ∧ l.quote ≤ 6 ∧ l.lists.length ≤ 6 ∧ 0 ≤ l.kind ∧ l.kind ≤ 3 ∧ (l.lists = [] ∨ l.kind = 0) ∧ (∀ k ∈ l.lists, k = 0 ∨ k = 1) ∧ kL l.cells = true := by
 unfold mayL at h;simp only [Bool.and_eq_true, Bool.or_eq_true, decide_eq_true_eq, List.all_eq_true] at h;obtain ⟨⟨⟨⟨⟨⟨⟨h1, h2⟩, h3⟩, h4⟩, h5⟩, h6⟩, h7⟩, h8⟩ := h;exact ⟨h1, h2, h3, h4, h5, h6, h7, h8⟩
def yQ (k : Int) (l : Lin) : Option Lin := if l.lists ≠ [] ∨ l.kind = k then none else some { l with kind := k }
def vZ (l : Lin) : Option Lin := if l.lists ≠ [] then (if l.lists.length = 6 then none else some { l with lists := l.lists ++ [xO l.lists] }) else if l.quote = 6 then none else some { l with quote := l.quote + 1 }
def yN (k : Int) (l : Lin) : Option Lin := if l.lists = [] then some { l with lists := [k], kind := 0 } else if xO l.lists = k then none else some { l with lists := l.lists.dropLast ++ [k] }
def jV (k : Int) (l : Lin) : Bool := decide (l.lists ≠ []) && decide (xO l.lists = k)
def selI (s : St) (i : Nat) : Bool := decide ((qV s).1.line ≤ i) && decide ((i : Int) ≤ (qV s).2.line)
def vF (f : Lin → Option Lin) (s : St) (k : Nat) : Doc := s.lines.mapIdx fun i l => if (selI s i && decide (i < k)) = true then (f l).getD l else l
def zBI (f : Lin → Option Lin) (s : St) : Doc := vF f s s.lines.length
def xY (p : Lin → Bool) (s : St) (k : Nat) : Bool := (List.range k).any fun i => selI s i && p (s.lines.getD i default)
def kP (p : Lin → Bool) (s : St) (k : Nat) : Bool := (List.range k).all fun i => !selI s i || p (s.lines.getD i default)
def kR (f : Lin → Option Lin) (s : St) : St × Int := if mayS s = true then (if xY (fun l => (f l).isSome) s s.lines.length = true then (⟨zBI f s, s.anc, s.foc, 0, 0⟩, 0) else (noS, 7)) else (noS, 1)
def kF (k : Int) (s : St) : Bool × Bool := if mayS s = true then (kP (jV k) s s.lines.length, xY (jV k) s s.lines.length) else (false, false)
def vA (k : Int) (s : St) : St × Int := if k < 0 ∨ 3 < k then (noS, 1) else kR (yQ k) s
def zAf (k : Int) (s : St) : St × Int := if k ≠ 0 ∧ k ≠ 1 then (noS, 1) else if (kF k s).1 = true then kR xH s else kR (yN k) s
def kB (s : St) : Option Int := if mayS s = true then (if kP (fun l => decide (l.lists = []) && decide (l.kind = (yG s.lines (qV s).1).kind)) s s.lines.length = true then some (yG s.lines (qV s).1).kind else none) else none
theorem zBC (f : Lin → Option Lin) (s : St) (k : Nat) : (vF f s k).length = s.lines.length := by unfold vF; simp
theorem zBE {f : Lin → Option Lin} {s : St} {k i : Nat} {l : Lin} (hl : s.lines[i]? = some l) : (vF f s k)[i]? = some (if (selI s i && decide (i < k)) = true then (f l).getD l else l) := by
 unfold vF;rw [List.getElem?_mapIdx, hl]
 rfl
theorem zKD {f : Lin → Option Lin} {s : St} {k : Nat} {l : Lin} (hl : s.lines[k]? = some l) : vF f s (k + 1) = if selI s k = true then (vF f s k).set k ((f l).getD l) else vF f s k := by
 apply List.ext_getElem?
 intro i;have hk := (zK.1 hl).1
 by_cases hi : i < s.lines.length
 ·obtain ⟨m, hm⟩ : ∃ m, s.lines[i]? = some m := ⟨s.lines[i], List.getElem?_eq_getElem hi⟩
  rw [zBE hm]
  by_cases e : i = k
  ·subst e
   rw [hl] at hm;cases hm
   by_cases hs : selI s i = true
   ·rw [if_pos hs, List.getElem?_set_self (by rw [zBC]; exact hk)]
    simp [hs]
   ·rw [if_neg hs, zBE hl]
    simp [hs]
  ·have h1 : decide (i < k + 1) = decide (i < k) := by
    by_cases h : i < k
    ·simp [h]; omega
    ·simp [h]; omega
   by_cases hs : selI s k = true
   ·rw [if_pos hs, List.getElem?_set_ne qE, zBE hm, h1]
   ·rw [if_neg hs, zBE hm, h1]
 ·rw [List.getElem?_eq_none (by rw [zBC]; omega)]
  split
  ·rw [List.getElem?_eq_none (by rw [List.length_set, zBC]; omega)]
  ·rw [List.getElem?_eq_none (by rw [zBC]; omega)]
theorem zMf (p : Lin → Bool) {s : St} {k : Nat} {l : Lin} (hl : s.lines[k]? = some l) : xY p s (k + 1) = (xY p s k || (selI s k && p l)) := by
 unfold xY;rw [List.range_succ, List.any_append];simp [List.getD_eq_getElem?_getD, hl]
theorem zDT (p : Lin → Bool) {s : St} {k : Nat} {l : Lin} (hl : s.lines[k]? = some l) : kP p s (k + 1) = (kP p s k && (!selI s k || p l)) := by
 unfold kP;rw [List.range_succ, List.all_append];simp [List.getD_eq_getElem?_getD, hl]
structure Cmd where
 name : List UInt8
 input : List UInt8
 data : Int
 deriving DecidableEq, Inhabited
def cmds : List Cmd := [
 ⟨[105, 110, 115, 101, 114, 116, 84, 101, 120, 116], [105, 110, 115, 101, 114, 116, 84, 101, 120, 116], 1⟩,
 ⟨[105, 110, 115, 101, 114, 116, 76, 105, 110, 101, 66, 114, 101, 97, 107], [105, 110, 115, 101, 114, 116, 76, 105, 110, 101, 66, 114, 101, 97, 107], 0⟩,
 ⟨[105, 110, 115, 101, 114, 116, 80, 97, 114, 97, 103, 114, 97, 112, 104], [105, 110, 115, 101, 114, 116, 80, 97, 114, 97, 103, 114, 97, 112, 104], 0⟩,
 ⟨[100, 101, 108, 101, 116, 101], [100, 101, 108, 101, 116, 101, 67, 111, 110, 116, 101, 110, 116, 66, 97, 99, 107, 119, 97, 114, 100], 0⟩,
 ⟨[102, 111, 114, 119, 97, 114, 100, 68, 101, 108, 101, 116, 101], [100, 101, 108, 101, 116, 101, 67, 111, 110, 116, 101, 110, 116, 70, 111, 114, 119, 97, 114, 100], 0⟩,
 ⟨[98, 111, 108, 100], [102, 111, 114, 109, 97, 116, 66, 111, 108, 100], 0⟩,
 ⟨[105, 116, 97, 108, 105, 99], [102, 111, 114, 109, 97, 116, 73, 116, 97, 108, 105, 99], 0⟩,
 ⟨[117, 110, 100, 101, 114, 108, 105, 110, 101], [102, 111, 114, 109, 97, 116, 85, 110, 100, 101, 114, 108, 105, 110, 101], 0⟩,
 ⟨[115, 116, 114, 105, 107, 101, 84, 104, 114, 111, 117, 103, 104], [102, 111, 114, 109, 97, 116, 83, 116, 114, 105, 107, 101, 84, 104, 114, 111, 117, 103, 104], 0⟩,
 ⟨[99, 114, 101, 97, 116, 101, 76, 105, 110, 107], [105, 110, 115, 101, 114, 116, 76, 105, 110, 107], 1⟩,
 ⟨[117, 110, 108, 105, 110, 107], [102, 111, 114, 109, 97, 116, 85, 110, 108, 105, 110, 107], 0⟩,
 ⟨[114, 101, 109, 111, 118, 101, 70, 111, 114, 109, 97, 116], [102, 111, 114, 109, 97, 116, 82, 101, 109, 111, 118, 101], 0⟩,
 ⟨[102, 111, 114, 109, 97, 116, 66, 108, 111, 99, 107], [102, 111, 114, 109, 97, 116, 66, 108, 111, 99, 107], 1⟩,
 ⟨[105, 110, 100, 101, 110, 116], [102, 111, 114, 109, 97, 116, 73, 110, 100, 101, 110, 116], 0⟩,
 ⟨[111, 117, 116, 100, 101, 110, 116], [102, 111, 114, 109, 97, 116, 79, 117, 116, 100, 101, 110, 116], 0⟩,
 ⟨[105, 110, 115, 101, 114, 116, 85, 110, 111, 114, 100, 101, 114, 101, 100, 76, 105, 115, 116], [105, 110, 115, 101, 114, 116, 85, 110, 111, 114, 100, 101, 114, 101, 100, 76, 105, 115, 116], 0⟩,
 ⟨[105, 110, 115, 101, 114, 116, 79, 114, 100, 101, 114, 101, 100, 76, 105, 115, 116], [105, 110, 115, 101, 114, 116, 79, 114, 100, 101, 114, 101, 100, 76, 105, 115, 116], 0⟩]
theorem zDS : cmds.length = 17 := rfl
def jT (name : List UInt8) : Option Nat := cmds.findIdx? fun c => decide (c.name.map lowB = name.map lowB)
theorem zAa {name : List UInt8} {k : Nat} (h : jT name = some k) : k < 17 := by
 have := List.findIdx?_eq_some_iff_getElem.1 h;exact this.1
def kG (a : List UInt8) : List UInt8 := if 1 < a.length ∧ a.head? = some 60 ∧ a.getLast? = some 62 then (a.drop 1).dropLast else a
def zCJ (a : List UInt8) : Option Int :=
 if (kG a).map lowB = [112] then some 0 else if (kG a).map lowB = [104, 49] then some 1 else if (kG a).map lowB = [104, 50] then some 2 else if (kG a).map lowB = [104, 51] then some 3 else none
def zAs (s : St) (a : List UInt8) : St × Int := match zCJ a with | some k => vA k s | none => (noS, 1)
def bitQ (k : Nat) : Int := if k = 5 then 1 else if k = 6 then 2 else if k = 7 then 4 else if k = 8 then 8 else 0
def doQ (s : St) (k : Nat) (a : List UInt8) : St × Int :=
 if k = 0 then keyS s (uS s ⟨a.toArray⟩) else if k = 1 then keyS s (uS s ⟨#[10]⟩) else if k = 2 then keyS s (zCG s) else if k = 3 then keyS s (zAy s) else if k = 4 then keyS s (zBf s)
 else if k ≤ 8 then uH s (bitQ k) else if k = 9 then yY s (zCI s a) else if k = 10 then yY s (zAq s) else if k = 11 then yY s (zCD s)
 else if k = 12 then zAs s a else if k = 13 then kR vZ s else if k = 14 then kR xH s else zAf ((k : Int) - 15) s
def runQ (s : St) (name a : List UInt8) : St × Int := match jT name with | some k => doQ s k a | none => (noS, 2)
def vB (s : St) (name : List UInt8) : Bool := match jT name with | some k => if 15 ≤ k then (kF ((k : Int) - 15) s).1 else hasS s (bitQ k) | none => false
def xQ (s : St) (name : List UInt8) : Bool := match jT name with
 | some k => if k = 12 then mayS s && (kB s).isNone else if 15 ≤ k then (kF ((k : Int) - 15) s).2 && !(kF ((k : Int) - 15) s).1 else xD s (bitQ k)
 | none => false
structure Twice (s a : St) (b : Int) (B C : St) : Prop where
 okB : uH a b = (B, 0)
 okC : uH B b = (C, 0)
 same : C = a
 hasA : hasS a b = !hasS s b
 hasB : hasS B b = !hasS a b
 mixA : xD a b = false
 mixB : xD B b = false
 mayA : mayS a = true
 mayB : mayS B = true
 anc : a.anc = s.anc ∧ a.foc = s.foc
theorem zLj {a b : List UInt8} (h : a.map lowB = b.map lowB) : jT a = jT b := by unfold jT; rw [h]
theorem zLi {k : Nat} {c : Cmd} (h : cmds[k]? = some c) : jT c.name = some k := by
 have hk : k < 17 := (zK.1 h).1;have H : ∀ k : Fin 17, jT (cmds[k.val]'k.isLt).name = some k.val := by decide +kernel
 have := H ⟨k, hk⟩;obtain ⟨h1, h2⟩ := zK.1 h;rw [← h2];exact this
theorem zGv {b : UInt8} (h : b.toNat < 128) : (lowB b).toNat < 128 := by
 unfold lowB
 split
 ·rename_i h1
  have : (b + 32).toNat = b.toNat + 32 := by
   rw [UInt8.toNat_add]
   show (b.toNat + 32) % 256 = _
   omega
  omega
 ·exact h
theorem zMp {c : List UInt8} (hc : ∀ b ∈ c, b.toNat < 128) : Lib.mapD lowR c = c.map lowB :=
 (zBD c.length c (c.map lowB) (Nat.le_refl _) (fun b hb => by
  obtain ⟨x, hx, rfl⟩ := List.mem_map.1 hb;exact zGv (hc x hx))).2 rfl
theorem zMO {c : List UInt8} (hc : ∀ b ∈ c, b.toNat < 128) (name : List UInt8) : Lib.mapD lowR c = Lib.mapD lowR name ↔ c.map lowB = name.map lowB := by
 rw [zMp hc]
 have h := zBD name.length name (c.map lowB) (Nat.le_refl _) (fun b hb => by
  obtain ⟨x, hx, rfl⟩ := List.mem_map.1 hb;exact zGv (hc x hx))
 exact ⟨fun e => (h.1 e.symm).symm, fun e => (h.2 e.symm).symm⟩
theorem zKr : ∀ c ∈ cmds, ∀ b ∈ c.name, b.toNat < 128 := by decide +kernel
def kD : List (List UInt8 × Int) := [
 ([100, 105, 118], 1),
 ([112], 2),
 ([104, 49], 3),
 ([104, 50], 4),
 ([104, 51], 5),
 ([98, 108, 111, 99, 107, 113, 117, 111, 116, 101], 6),
 ([117, 108], 7),
 ([111, 108], 8),
 ([108, 105], 9),
 ([97], 10),
 ([98], 11),
 ([115, 116, 114, 111, 110, 103], 11),
 ([105], 12),
 ([101, 109], 12),
 ([117], 13),
 ([105, 110, 115], 13),
 ([115], 14),
 ([115, 116, 114, 105, 107, 101], 14),
 ([100, 101, 108], 14),
 ([115, 112, 97, 110], 15),
 ([98, 114], 16)]
def tagF (name : List UInt8) : Option Int := (kD.find? fun x => decide (x.1 = name.map lowB)).map (·.2)
theorem zME {n : List UInt8} {t : Int} (h : (n, t) ∈ kD) {name : List UInt8} (hn : n = name.map lowB) : tagF name = some t := by
 unfold tagF;rw [← hn];have H : ∀ x ∈ kD, (kD.find? fun y => decide (y.1 = x.1)).map (·.2) = some x.2 := by decide +kernel
 exact H _ h
theorem zLy {name : List UInt8} {t : Int} (h : tagF name = some t) : ∃ n, (n, t) ∈ kD ∧ n = name.map lowB := by
 unfold tagF at h;obtain ⟨⟨n, t'⟩, h1, h2⟩ := Option.map_eq_some_iff.1 h;simp only at h2;subst h2;have h3 := List.find?_some h1;exact ⟨n, List.mem_of_find?_eq_some h1, of_decide_eq_true h3⟩
theorem zLQ (a : List UInt8) : zCJ a = match tagF (kG a) with | some t => if 2 ≤ t ∧ t ≤ 5 then some (t - 2) else none | none => none := by
 cases h : tagF (kG a) with
 | some t =>
  obtain ⟨n, h1, h2⟩ := zLy h;have H : ∀ x ∈ kD, (if x.1 = [112] then some 0 else if x.1 = [104, 49] then some 1 else if x.1 = [104, 50] then some 2 else if x.1 = [104, 51] then some (3 : Int) else none) = if 2 ≤ x.2 ∧ x.2 ≤ 5 then some (x.2 - 2) else none := by decide +kernel
  unfold zCJ;rw [← h2];exact H _ h1
 | none =>
  have hx : ∀ x ∈ kD, ¬ x.1 = (kG a).map lowB := fun x hx e => by
   have := zME (n := x.1) (t := x.2) hx e;rw [h] at this;cases this
  unfold zCJ;rw [if_neg (fun e => hx ([112], 2) jA e.symm), if_neg (fun e => hx ([104, 49], 3) jA e.symm), if_neg (fun e => hx ([104, 50], 4) jA e.symm), if_neg (fun e => hx ([104, 51], 5) jA e.symm)]
end Go.Proofs.Qw
