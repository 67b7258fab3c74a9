/- Parts of the proof. -/
import Derived.Test.YtcliojeoindceaaGreatDoorAttrWalkY
import Derived.Test.YtcliojeoindceaaGreatDoorLaidY
import Derived.Test.YtcliojeoindceaaGreatDoorStSpanY
import Derived.Test.YtcliojeoindceaaGreatDoorPartBaseY
import Derived.Lib.QuoteLoop
import Derived.Lib.TrimUEq
set_option linter.unusedVariables false
set_option linter.unusedSimpArgs false
set_option maxHeartbeats 8000000
namespace Go.Proofs.Qw
open Go.RowKit Go.Proofs.YtcliojeoindceaaGreatDoor
section
variable {P : Program} {ops : Array Oper} {C : World → Prop} {K : Act → Prop} {a : Act} {o : Oper}
abbrev Grew (n : Nat) (w : World) : World → Prop := fun W => Below n w W
theorem xN {id : Nat} {Q : Exit → Act → World → Prop} {a : Act} {w : World} {l : List Oper} (n : Nat) (hm : P.follows .mixedOrders = true) (hB : Region.lexB .any l.toArray = true)
  (h : wpQuiet P l.toArray (Grew n w) (fun a' => ∀ w', Below n w w' → Q .normal a' w') l a) : (Code.region id l.toArray true).wp P Q a w :=
 wp_region_quiet (C := Grew n w) hm hB ((Below.refl n w).drew) (by simpa using h)
theorem kG (v : Value) (h : ∀ W, C W → (execOp a.eval o).run P W = .ok (.value v) W) (hk : K (a.put o.dst v)) : o.quiet P a C K :=
 ⟨v, fun W hW => by unfold Oper.quietAt; rw [h W hW]; exact ⟨rfl, rfl⟩, hk⟩
theorem uJ (v : Value) {f : FuncId} {args : Array Value} (h : ∀ W, C W → (execOp a.eval o).run P W = .ok (.enter f args) W) (hc : ∀ W, C W → Calls P f args W fun e W' => e = .returned v ∧ C W') (hk : K (a.put o.dst v)) : o.quiet P a C K :=
 ⟨v, fun W hW => by unfold Oper.quietAt; rw [h W hW]; exact ⟨rfl, hc W hW⟩, hk⟩
end
end Go.Proofs.Qw
namespace Go.Proofs.YtcliojeoindceaaGreatDoor
open Go.RowKit
open Go.Proofs.Qw
open _root_.Go.Lib renaming hid → zA
open _root_.Go.RowKit.Below renaming refl → zE
open _root_.Go.BigFrame renaming wpQuiet_want → zI
open _root_.Go renaming bodyPost_ret → zM
open _root_.Go.Act renaming put → zU
open _root_.Go.Proofs.Tryz renaming prog → zV
open _root_.Go.Proofs.YtcliojeoindceaaGreatDoor renaming jG → zX, jI → zY
theorem zDz (p q : Ps) (w : World) : (binOp .neq 24 (.agg #[.int .i64 p.line, .int .i64 p.col]) (.agg #[.int .i64 q.line, .int .i64 q.col])).run zV w = .ok (.bool (!decide (p = q))) w := by
 have h1 : Tryz.prog.stoodInHeld 24 = false := by kernel_rfl
 have h2 : Tryz.prog.underlying 24 = some (.struct (Tryz.prog.fieldsOf 24)) := by kernel_rfl
 rw [run_neq_struct, show (10000:Nat) = 9999 + 1 from rfl, run_equalIn_agg _ _ _ _ _ h2 h1];simp [Tryz.underlying24, go_sem];obtain ⟨a, b⟩ := p;obtain ⟨d, e⟩ := q;simp only [Ps.mk.injEq]
 by_cases e1 : a = d <;> by_cases e2 : b = e <;> simp [e1, e2]
set_option maxRecDepth 100000 in
theorem zCs (v : Value) (s : St) (w : World) :
  Calls zV 115 #[stV v s] w fun e w' => e = .returned (.bool (!decide (s.anc = s.foc))) ∧ Below w.heap.size w w' := by
 obtain ⟨W1, hW1, hB, hz, k0⟩ := vJ w v s;have HB : Hid (∀ W, Below W1.heap.size W1 W → W.heap[w.heap.size]? = some (.cells #[v, .int .i64 s.anc.line, .int .i64 s.anc.col, .int .i64 s.foc.line, .int .i64 s.foc.col, .int .i64 s.on, .int .i64 s.off] 26)) := zA fun W hW => zY hW k0;have hs1 := hB.size;have H1 := zA hB;have hw0 : Below W1.heap.size W1 W1 := zE _ _;have hg := zDZ;have hq := fun (w : World) => zDz s.anc s.foc w;obtain ⟨p0, f0⟩ := blk k0
 generalize decide (s.anc = s.foc) = r at *
 clear k0 hB;go_enter Tryz.func115, Tryz.ntmps115;go_wp2_with fail;go_ret;exact ⟨rfl, H1.out⟩
theorem zGG {d : Doc} {p : Ps} (h : isD d p = true) : ∃ (i k : Nat) (l : Lin), p.line = i ∧ p.col = k ∧ d[i]? = some l ∧ (d.getD p.line.toNat default).cells = l.cells ∧ p.col.toNat = k ∧ k ≤ l.cells.length := by
 obtain ⟨a, b⟩ := p;simp only [isD, Bool.and_eq_true, decide_eq_true_eq] at h;obtain ⟨⟨⟨h1, h2⟩, h3⟩, h4⟩ := h;obtain ⟨i, rfl⟩ := Int.eq_ofNat_of_zero_le h1;obtain ⟨k, rfl⟩ := Int.eq_ofNat_of_zero_le h3;obtain ⟨l, hl, _⟩ := jP d i qD;have hg : d.getD i default = l := by rw [List.getD, hl]; rfl
 rw [Int.toNat_natCast] at h4 ⊢;rw [hg] at h4 ⊢;exact ⟨i, k, l, rfl, rfl, hl, rfl, Int.toNat_natCast _, by omega⟩
set_option maxRecDepth 100000 in
theorem zKR (v : Value) (s : St) (w : World) (S : Nat → Prop) (h : jD w S v s.lines) (hf : Fits s.lines) (hc : s.anc = s.foc) (hm : isD s.lines s.anc = true) :
  Calls zV 202 #[stV v s] w fun e w' => e = .returned (.tuple #[.agg #[.int .i64 s.anc.line, .int .i64 (yA (yF s) s.anc.col.toNat).1], .agg #[.int .i64 s.anc.line, .int .i64 (yA (yF s) s.anc.col.toNat).2]]) ∧ Below w.heap.size w w' := by
 obtain ⟨W1, hW1, hB, hz, k0, k1, k2⟩ := zEe w v s;have HB : Hid (∀ W, Below W1.heap.size W1 W → W.heap[w.heap.size]? = some (.cells #[v, .int .i64 s.anc.line, .int .i64 s.anc.col, .int .i64 s.foc.line, .int .i64 s.foc.col, .int .i64 s.on, .int .i64 s.off] 26) ∧ W.heap[w.heap.size + 1]? = some (.cells #[.int .i64 0, .int .i64 0] 24) ∧ W.heap[w.heap.size + 2]? = some (.cells #[.int .i64 0, .int .i64 0] 24)) := zA fun W hW => ⟨zY hW k0, zY hW k1, zY hW k2⟩;have hs1 := hB.size;have H1 := zA hB;have hw0 : Below W1.heap.size W1 W1 := zE _ _;have HV : Hid (∀ W, Below W1.heap.size W1 W → jD W S v s.lines) := zA fun W hW => h.below (jW _) (hB.trans (hW.mono hs1))
 have HS : Hid (∀ W, Below W1.heap.size W1 W → Calls zV 114 #[stV v s] W fun e w' => e = .returned (.tuple #[.agg #[.int .i64 s.anc.line, .int .i64 s.anc.col], .agg #[.int .i64 s.anc.line, .int .i64 s.anc.col]]) ∧ Below W.heap.size W w') := zA fun W _ => by
  have := zAm v s W;rw [zEV hc] at this;exact this
 obtain ⟨i, n, l, hi, hn, hl, hcl, hnn, hnl⟩ := zGG hm;have hc1 : (yA (yF s) s.anc.col.toNat) = yA l.cells n := by unfold yF; rw [hcl, hnn]
 obtain ⟨x, y, hxy⟩ : ∃ x y, yA l.cells n = (x, y) := ⟨_, _, rfl⟩;rw [hc1, hxy];have HXY := zA hxy;have hfl := (hf.2 l (List.mem_of_getElem? hl)).2;have hil := (List.getElem?_eq_some_iff.1 hl).1;obtain ⟨va, vc, rfl, hvc, hvm, hx⟩ := xA h;obtain ⟨b, o, la, lc, ca, cc, rfl, hAt⟩ := hx i l hl;have HAT : Hid (∀ W, Below W1.heap.size W1 W → LinAt W S b (o + i * 4) l la lc ca cc) := zA fun W hW => hAt.below (hB.trans (hW.mono hs1));unfold maxLen at hvm;have i0 : (0 : Int) ≤ (i : Int) := Int.natCast_nonneg _;have i1 : (i : Int) < (s.lines.length : Int) := by omega
 obtain ⟨p0, f0⟩ := blk k0;obtain ⟨lines, anc, foc, on, off⟩ := s;obtain ⟨al, ac⟩ := anc;simp only at hi hn hc;subst hi hn hc;clear h hf hm hcl hnn hc1 hxy hl hx hAt k0 k1 k2 hB;go_enter Tryz.func202, Tryz.ntmps202;go_wp2_with (go_at_call 114; refine (HS.out _ hw0).mono ?_; rintro e w2 ⟨rfl, hb2⟩; obtain ⟨q0, g0⟩ := blk (HB.out _ hb2).1);obtain ⟨w3, hw3⟩ : ∃ w3, (w2.alloc (.cells #[.int .i64 i, .int .i64 n] 24)).alloc (.cells #[.int .i64 i, .int .i64 n] 24) = w3 := ⟨_, rfl⟩;rw [hw3];have hb23 : Below w2.heap.size w2 w3 := hw3 ▸ ((zE _ _).alloc (Nat.le_refl _) _).alloc qF _;have n3 : w3.heap[w2.heap.size]? = some (.cells #[.int .i64 i, .int .i64 n] 24) := hw3 ▸ jK _ _ (jF _ _ rfl);have hb3 := zX hb2 hb23;have HB3 : Hid (∀ W, Below w3.heap.size w3 W → W.heap[w2.heap.size]? = some (.cells #[.int .i64 i, .int .i64 n] 24)) := zA fun W hW => zY hW n3
 have HWi : Hid (∀ W, Below w3.heap.size w3 W → Calls zV 264 #[.slice ca l.cells.length cc, .int .i64 n] W fun e w' => e = .returned (.tuple #[.int .i64 x, .int .i64 y]) ∧ Below W.heap.size W w') := zA fun W hW => by
  have := zJQ _ l.cells n W S (HAT.out W (zX hb3 hW)).cellsR hnl hfl;rw [HXY.out] at this;exact this
 clear n3 q0 g0 p0 f0 hw3;refine xN w3.heap.size zT zT ?_;refine zI zT (fun K hK => ?_);refine kG ?_ (fun W hW => ?_) (hK _ ?_);rotate_left 1
 ·skip
  go_simp
  try rfl
 clear hK;clear K;try simp only [zU, qI, qX, qY]
 refine zI zT (fun K hK => ?_);refine kG ?_ (fun W hW => ?_) (hK _ ?_);rotate_left 1
 ·skip
  obtain ⟨p0, f0⟩ := blk (HB.out _ (zX hb3 hW)).1;obtain ⟨p3, f3⟩ := blk (HB3.out _ hW);obtain ⟨_, _, _, _, c3, _, _⟩ := HAT.out _ (zX hb3 hW);go_simp
  try rfl
 clear hK;clear K;try simp only [zU, qI, qX, qY]
 refine zI zT (fun K hK => ?_);refine kG ?_ (fun W hW => ?_) (hK _ ?_);rotate_left 1
 ·skip
  go_simp
  try rfl
 clear hK;clear K;try simp only [zU, qI, qX, qY]
 refine zI zT (fun K hK => ?_);refine kG ?_ (fun W hW => ?_) (hK _ ?_);rotate_left 1
 ·skip
  obtain ⟨p0, f0⟩ := blk (HB.out _ (zX hb3 hW)).1;obtain ⟨p3, f3⟩ := blk (HB3.out _ hW);obtain ⟨_, _, _, _, c3, _, _⟩ := HAT.out _ (zX hb3 hW);go_simp
  try rfl
 clear hK;clear K;try simp only [zU, qI, qX, qY]
 refine zI zT (fun K hK => ?_);refine kG ?_ (fun W hW => ?_) (hK _ ?_);rotate_left 1
 ·skip
  go_simp
  try rfl
 clear hK;clear K;try simp only [zU, qI, qX, qY]
 refine zI zT (fun K hK => ?_);refine kG ?_ (fun W hW => ?_) (hK _ ?_);rotate_left 1
 ·skip
  go_simp
  try rfl
 clear hK;clear K;try simp only [zU, qI, qX, qY]
 refine zI zT (fun K hK => ?_);refine kG ?_ (fun W hW => ?_) (hK _ ?_);rotate_left 1
 ·skip
  obtain ⟨p0, f0⟩ := blk (HB.out _ (zX hb3 hW)).1;obtain ⟨p3, f3⟩ := blk (HB3.out _ hW);obtain ⟨_, _, _, _, c3, _, _⟩ := HAT.out _ (zX hb3 hW);go_simp
  try rfl
 clear hK;clear K;try simp only [zU, qI, qX, qY]
 refine zI zT (fun K hK => ?_);refine kG ?_ (fun W hW => ?_) (hK _ ?_);rotate_left 1
 ·skip
  go_simp
  try rfl
 clear hK;clear K;try simp only [zU, qI, qX, qY]
 refine zI zT (fun K hK => ?_);refine kG ?_ (fun W hW => ?_) (hK _ ?_);rotate_left 1
 ·skip
  obtain ⟨p0, f0⟩ := blk (HB.out _ (zX hb3 hW)).1;obtain ⟨p3, f3⟩ := blk (HB3.out _ hW);obtain ⟨_, _, _, _, c3, _, _⟩ := HAT.out _ (zX hb3 hW);go_simp
  try rfl
 clear hK;clear K;try simp only [zU, qI, qX, qY]
 refine zI zT (fun K hK => ?_);refine uJ (f := ?_) (args := ?_) ?_ (fun W hW => ?_) (fun W hW => ?_) (hK _ ?_);rotate_left 3
 ·go_simp
  constructor <;> rfl
 ·refine (HWi.out _ hW).mono ?_
  rintro e W2 ⟨rfl, hbW⟩;refine ⟨?_, zX hW hbW⟩
  rfl
 clear hK;clear K;try simp only [zU, qI, qX, qY]
 refine zI zT (fun K hK => ?_);refine kG ?_ (fun W hW => ?_) (hK _ ?_);rotate_left 1
 ·skip
  go_simp
  try rfl
 clear hK;clear K;try simp only [zU, qI, qX, qY]
 refine zI zT (fun K hK => ?_);refine kG ?_ (fun W hW => ?_) (hK _ ?_);rotate_left 1
 ·skip
  go_simp
  try rfl
 clear hK;clear K;try simp only [zU, qI, qX, qY]
 refine zI zT (fun K hK => ?_);refine kG ?_ (fun W hW => ?_) (hK _ ?_);rotate_left 1
 ·skip
  go_simp
  try rfl
 clear hK;clear K;try simp only [zU, qI, qX, qY]
 refine zI zT (fun K hK => ?_);refine kG ?_ (fun W hW => ?_) (hK _ ?_);rotate_left 1
 ·skip
  go_simp
  try rfl
 clear hK;clear K;try simp only [zU, qI, qX, qY]
 refine zI zT (fun K hK => ?_);refine kG ?_ (fun W hW => ?_) (hK _ ?_);rotate_left 1
 ·skip
  go_simp
  try rfl
 clear hK;clear K;try simp only [zU, qI, qX, qY]
 refine wpQuiet_nil (fun X6 hstX6 => ?_);have hcX6 := zX hb3 hstX6;obtain ⟨p3, f3⟩ := blk (HB3.out _ hstX6);obtain ⟨p1, f1⟩ := blk (HB.out _ hcX6).2.1;obtain ⟨p2, f2⟩ := blk (HB.out _ hcX6).2.2;go_wp2_with fail;have hs2 := hb2.size;have e1 : ¬ w.heap.size + 1 = w2.heap.size := by omega
 have e2 : ¬ w2.heap.size = w.heap.size + 1 := by omega
 have e3 : ¬ w.heap.size + 1 + 1 = w2.heap.size := by omega
 have e4 : ¬ w2.heap.size = w.heap.size + 1 + 1 := by omega
 go_region;go_wp2_with fail;refine zM (zBC rfl _ _ (w.heap.size + 1) (w.heap.size + 2) (.int .i64 i) (.int .i64 x) (.int .i64 i) (.int .i64 y) rfl rfl (by change (World.setCell _ _ _).heap[_]? = _; simp [jO, jA, (HB.out _ hcX6).2.1]) (by change (World.setCell _ _ _).heap[_]? = _; simp [jO, jA, (HB.out _ hcX6).2.2])) rfl ?_;have hfin := H1.out.trans (hcX6.mono hs1);exact ⟨rfl, by ((with_reducible repeat' first | exact zE _ _ | assumption | refine Below.alloc ?_ ?_ _ | refine Below.drew ?_ | refine jQ ?_ | refine Below.setCell ?_ ?_ _) <;> go_size)⟩
set_option maxRecDepth 100000 in
theorem zFf (v : Value) (s : St) (w : World) (S : Nat → Prop) (h : jD w S v s.lines) (hf : Fits s.lines) (hm : isD s.lines s.anc = true) :
  Calls zV 122 #[stV v s] w fun e w' => e = .returned (.tuple #[.agg #[.int .i64 (kP s).1.line, .int .i64 (kP s).1.col], .agg #[.int .i64 (kP s).2.line, .int .i64 (kP s).2.col]]) ∧ Below w.heap.size w w' := by
 obtain ⟨W1, hW1, hB, hz, k0, k1, k2⟩ := zEe w v s;have HB : Hid (∀ W, Below W1.heap.size W1 W → W.heap[w.heap.size]? = some (.cells #[v, .int .i64 s.anc.line, .int .i64 s.anc.col, .int .i64 s.foc.line, .int .i64 s.foc.col, .int .i64 s.on, .int .i64 s.off] 26) ∧ W.heap[w.heap.size + 1]? = some (.cells #[.int .i64 0, .int .i64 0] 24) ∧ W.heap[w.heap.size + 2]? = some (.cells #[.int .i64 0, .int .i64 0] 24)) := zA fun W hW => ⟨zY hW k0, zY hW k1, zY hW k2⟩;have hs1 := hB.size;have H1 := zA hB;have hw0 : Below W1.heap.size W1 W1 := zE _ _;have HV : Hid (∀ W, Below W1.heap.size W1 W → jD W S v s.lines) := zA fun W hW => h.below (jW _) (hB.trans (hW.mono hs1));have HO : Hid (∀ W, Below W1.heap.size W1 W → Calls zV 115 #[stV v s] W fun e w' => e = .returned (.bool (!decide (s.anc = s.foc))) ∧ Below W.heap.size W w') := zA fun W _ => zCs v s W;have HS : Hid (∀ W, Below W1.heap.size W1 W → Calls zV 114 #[stV v s] W fun e w' => e = .returned (.tuple #[.agg #[.int .i64 (qV s).1.line, .int .i64 (qV s).1.col], .agg #[.int .i64 (qV s).2.line, .int .i64 (qV s).2.col]]) ∧ Below W.heap.size W w') := zA fun W _ => zAm v s W;have HA : Hid (s.anc = s.foc → ∀ W, Below W1.heap.size W1 W → Calls zV 202 #[stV v s] W fun e w' => e = .returned (.tuple #[.agg #[.int .i64 s.anc.line, .int .i64 (yA (yF s) s.anc.col.toNat).1], .agg #[.int .i64 s.anc.line, .int .i64 (yA (yF s) s.anc.col.toNat).2]]) ∧ Below W.heap.size W w') := zA fun hc W hW => zKR v s W S (HV.out W hW) hf hc hm;have HR : Hid (kP s = if s.anc = s.foc then (⟨s.anc.line, ((yA (yF s) s.anc.col.toNat).1 : Int)⟩, ⟨s.anc.line, ((yA (yF s) s.anc.col.toNat).2 : Int)⟩) else qV s) := zA rfl;obtain ⟨p0, f0⟩ := blk k0;obtain ⟨va, vc, rfl⟩ := h.slice;clear h hf hm HV k0 k1 k2 hB
 by_cases hc : s.anc = s.foc
 ·skip
  rw [if_pos hc] at HR;rw [decide_eq_true hc] at HO;have HA := zA (HA.out hc);obtain ⟨x, hx⟩ : ∃ x, (yA (yF s) s.anc.col.toNat) = x := ⟨_, rfl⟩;rw [hx] at HR HA;clear hx HS;have HR := zA HR.out;clear hc;go_enter Tryz.func122, Tryz.ntmps122;go_wp2_with (first | (go_at_call 115; refine (HO.out _ hw0).mono ?_; rintro e w2 ⟨rfl, hb2⟩; obtain ⟨q0, g0⟩ := blk (HB.out _ hb2).1) | (go_at_call 202; refine (HA.out _ hb2).mono ?_; rintro e w3 ⟨rfl, hst3⟩; have hb3 := zX hb2 hst3; obtain ⟨q1, g1⟩ := blk (HB.out _ hb3).2.1; obtain ⟨q2, g2⟩ := blk (HB.out _ hb3).2.2));refine zM (zBC rfl _ _ (w.heap.size + 1) (w.heap.size + 2) (.int .i64 s.anc.line) (.int .i64 x.1) (.int .i64 s.anc.line) (.int .i64 x.2) rfl rfl (by simp [jO, jA, (HB.out _ hb3).2.1]) (by simp [jO, jA, (HB.out _ hb3).2.2])) rfl ?_;rw [HR.out];have hfin := H1.out.trans (hb3.mono hs1);exact ⟨rfl, by ((with_reducible repeat' first | exact zE _ _ | assumption | refine Below.alloc ?_ ?_ _ | refine Below.drew ?_ | refine jQ ?_ | refine Below.setCell ?_ ?_ _) <;> go_size)⟩
 ·skip
  rw [if_neg hc] at HR;rw [decide_eq_false hc] at HO;obtain ⟨x, hx⟩ : ∃ x, qV s = x := ⟨_, rfl⟩;rw [hx] at HR HS;clear hx HA;have HR := zA HR.out;clear hc;go_enter Tryz.func122, Tryz.ntmps122;go_wp2_with (first | (go_at_call 115; refine (HO.out _ hw0).mono ?_; rintro e w2 ⟨rfl, hb2⟩; obtain ⟨q0, g0⟩ := blk (HB.out _ hb2).1) | (go_at_call 114; refine (HS.out _ hb2).mono ?_; rintro e w3 ⟨rfl, hst3⟩; have hb3 := zX hb2 hst3; obtain ⟨q1, g1⟩ := blk (HB.out _ hb3).2.1; obtain ⟨q2, g2⟩ := blk (HB.out _ hb3).2.2));refine zM (zBC rfl _ _ (w.heap.size + 1) (w.heap.size + 2) (.int .i64 x.1.line) (.int .i64 x.1.col) (.int .i64 x.2.line) (.int .i64 x.2.col) rfl rfl (by simp [jO, jA, (HB.out _ hb3).2.1]) (by simp [jO, jA, (HB.out _ hb3).2.2])) rfl ?_;rw [HR.out];have hfin := H1.out.trans (hb3.mono hs1);exact ⟨rfl, by ((with_reducible repeat' first | exact zE _ _ | assumption | refine Below.alloc ?_ ?_ _ | refine Below.drew ?_ | refine jQ ?_ | refine Below.setCell ?_ ?_ _) <;> go_size)⟩
end Go.Proofs.YtcliojeoindceaaGreatDoor
namespace Go.Proofs.YtcliojeoindceaaGreatDoor
open Go.RowKit
open Go.Proofs.Qw
attribute [local go_sem] Oper.semAt_some
open _root_.Go.Lib renaming hid → zA
open _root_.And renaming intro → zB
open _root_.Nat renaming le_refl → zC
open _root_.Go.RowKit.Below renaming refl → zE
open _root_.Go.BigFrame renaming wpQuiet_want → zI
open _root_.Go.Act renaming put → zU
open _root_.Go.Proofs.Tryz renaming prog → zV
open _root_.Go.Proofs.YtcliojeoindceaaGreatDoor renaming jG → zX, jI → zY, jK → zZ, jF → qG
theorem zBk {w : World} {B : Nat} {cs : Array Value} {t : TypeId} (h : w.heap[B]? = some (.cells cs t)) : ∀ X Y k, ((w.alloc X).alloc Y).cell? ⟨B, k, none⟩ = cs[k]? := fun X Y _ => jT (zZ _ Y (zZ _ X h))
def BI (w : World) (Ba Bn Z : Nat) (pre : List Cel) (W : World) : Prop :=
 Boxed W Ba 3 (.int .i64 (andB pre)) ∧ Boxed W Bn 3 (.int .i64 pre.length) ∧ Below w.heap.size w W ∧ Z ≤ W.heap.size
theorem zNK {w : World} {Ba Bn Z B : Nat} (hB : w.heap.size ≤ B) : OwnFrom B (BI w Ba Bn Z) :=
 OwnFrom.and (Own.from (boxed_own _ _ (fun pre : List Cel => .int .i64 (andB pre))) _) (OwnFrom.and (Own.from (boxed_own _ _ (fun pre : List Cel => .int .i64 pre.length)) _) (OwnFrom.and (ownFrom_below (zC _) hB) (uS _ _)))
theorem zGc (d : List Cel) (t : Int) : (decide (0 < d.length) && decide (d.countP (fun x => bits .and .i64 x.bits t == t) = d.length)) = allL d t := by
 rw [Bool.eq_iff_iff];simp only [allL, Bool.and_eq_true, decide_eq_true_eq, List.all_eq_true, List.countP_eq_length]
theorem zGb (d : List Cel) (t : Int) : decide (0 < d.countP (fun x => bits .and .i64 x.bits t != 0)) = uG d t := by
 rw [Bool.eq_iff_iff];simp only [uG, decide_eq_true_eq, List.any_eq_true, List.countP_pos_iff]
theorem zLQ (l : List Cel) (x : Cel) : andB (l ++ [x]) = bits .and .i64 (andB l) x.bits := by simp [andB]
set_option maxRecDepth 100000 in
theorem zFg (v : Value) (s : St) (w : World) (S : Nat → Prop) (h : jD w S v s.lines) (he : EnvT w) (hs : Small s.lines) (hf : Fits s.lines) :
  Calls zV 112 #[stV v s] w fun e w' => e = .returned (.int .i64 (yH s)) ∧ Below w.heap.size w w' := by
 obtain ⟨W1, hW1, hB, hz, k0⟩ := vJ w v s;have HB : Hid (∀ W, Below W1.heap.size W1 W → W.heap[w.heap.size]? = some (.cells #[v, .int .i64 s.anc.line, .int .i64 s.anc.col, .int .i64 s.foc.line, .int .i64 s.foc.col, .int .i64 s.on, .int .i64 s.off] 26)) := zA fun W hW => zY hW k0;have hs1 := hB.size;have H1 := zA hB;have hw0 : Below W1.heap.size W1 W1 := zE _ _;have HV : Hid (∀ W, Below W1.heap.size W1 W → jD W S v s.lines) := zA fun W hW => h.below (jW _) (hB.trans (hW.mono hs1));have HE : Hid (∀ W, Below W1.heap.size W1 W → EnvT W) := zA fun W hW => (he.below hB).below hW;have HM : Hid (∀ W, Below W1.heap.size W1 W → Calls zV 23 #[stV v s] W fun e w' => e = .returned (.bool (mayS s)) ∧ Below W.heap.size W w') := zA fun W hW => vV v s W S (HV.out W hW) (HE.out W hW) hs;have HSp : Hid (∀ W, Below W1.heap.size W1 W → Calls zV 114 #[stV v s] W fun e w' => e = .returned (.tuple #[.agg #[.int .i64 (qV s).1.line, .int .i64 (qV s).1.col], .agg #[.int .i64 (qV s).2.line, .int .i64 (qV s).2.col]]) ∧ Below W.heap.size W w') := zA fun W _ => zAm v s W;have HO : Hid (∀ W, Below W1.heap.size W1 W → Calls zV 115 #[stV v s] W fun e w' => e = .returned (.bool (!decide (s.anc = s.foc))) ∧ Below W.heap.size W w') := zA fun W _ => zCs v s W;have HVF := zA (zB h (zB he (zB hs hf)));have hbs : yH s = if mayS s = true then (if s.anc = s.foc then bits .or .i64 (bits .andNot .i64 (kV (yF s) s.anc.col.toNat).1 s.off) s.on else zCR (selS s)) else 0 := rfl;have HR := zA hbs;clear hbs;cases hm : mayS s
 ·rw [hm] at HM HR
  have HR : Hid (yH s = 0) := zA (HR.out.trans (if_neg qF));obtain ⟨p0, f0⟩ := blk k0;obtain ⟨va, vc, rfl⟩ := h.slice;clear h he hs hf k0 hB hm HSp HO HVF;go_enter Tryz.func112, Tryz.ntmps112;go_wp2_with (go_at_call 23; refine (HM.out _ hw0).mono ?_; rintro e w2 ⟨rfl, hb2⟩);go_ret;rw [HR.out];exact ⟨rfl, H1.out.trans (hb2.mono hs1)⟩
 by_cases hc : s.anc = s.foc
 ·rw [hm] at HM HR
  rw [if_pos rfl, if_pos hc] at HR;rw [decide_eq_true hc] at HO;rw [zEV hc] at HSp;have HR := zA HR.out;obtain ⟨i, n, l, hi, hn, hl, hcl, hnn, hnl⟩ := zGG (yK hm).2.1;have hc1 : (kV (yF s) s.anc.col.toNat) = kV l.cells n := by unfold yF; rw [hcl, hnn]
  obtain ⟨x, y, hxy⟩ : ∃ x y, kV l.cells n = (x, y) := ⟨_, _, rfl⟩;rw [hc1, hxy] at HR;have HXY := zA hxy;have hil := (List.getElem?_eq_some_iff.1 hl).1;obtain ⟨va, vc, rfl, hvc, hvm, hx⟩ := xA h;obtain ⟨b, o, la, lc, ca, cc, rfl, hAt⟩ := hx i l hl;have HAT : Hid (∀ W, Below W1.heap.size W1 W → LinAt W S b (o + i * 4) l la lc ca cc) := zA fun W hW => hAt.below (hB.trans (hW.mono hs1));unfold maxLen at hvm;have i0 : (0 : Int) ≤ (i : Int) := Int.natCast_nonneg _;have i1 : (i : Int) < (s.lines.length : Int) := by omega
  obtain ⟨p0, f0⟩ := blk k0;obtain ⟨r, hr⟩ : ∃ r, yH s = r := ⟨_, rfl⟩;rw [hr] at HR ⊢;clear hr;obtain ⟨lines, anc, foc, on, off⟩ := s;obtain ⟨al, ac⟩ := anc;simp only at hi hn hc;subst hi hn hc;clear h he hs hf hm hcl hnn hc1 hxy hl hx hAt k0 hB HVF;go_enter Tryz.func112, Tryz.ntmps112;go_wp2_with (first | (go_at_call 23; refine (HM.out _ hw0).mono ?_; rintro e w2 ⟨rfl, hb2⟩; obtain ⟨q0, g0⟩ := blk (HB.out _ hb2)) | (go_at_call 114; refine (HSp.out _ hb2).mono ?_; rintro e w3 ⟨rfl, hst3⟩; have hb3 := zX hb2 hst3; obtain ⟨q1, g1⟩ := blk (HB.out _ hb3); have e3 : ¬ w3.heap.size = w.heap.size := (by have := hb3.size; omega); have HA3 : Hid (∀ X Y, Below W1.heap.size W1 ((w3.alloc X).alloc Y)) := zA fun X Y => (hb3.alloc hb3.size X).alloc (by have := hb3.size; simp; omega) Y; have r1 := zBk (HB.out _ hb3)) | (go_at_call 115; refine (HO.out _ (HA3.out _ _)).mono ?_; rintro e w4 ⟨rfl, hst4⟩));have hb4 := zX (HA3.out _ _) hst4;have n3 : w4.heap[w3.heap.size]? = some (.cells #[.int .i64 i, .int .i64 n] 24) := zY hst4 (zZ _ _ (qG _ _ rfl));have HB4 : Hid (∀ W, Below w4.heap.size w4 W → W.heap[w3.heap.size]? = some (.cells #[.int .i64 i, .int .i64 n] 24)) := zA fun W hW => zY hW n3
  have HAr : Hid (∀ W, Below w4.heap.size w4 W → Calls zV 141 #[.slice ca l.cells.length cc, .int .i64 n] W fun e w' => e = .returned (.tuple #[.int .i64 x, .string ⟨y.toArray⟩]) ∧ Below W.heap.size W w') := zA fun W hW => by
   have := zDJ _ l.cells n W S (HAT.out W (zX hb4 hW)).cellsR hnl;rw [HXY.out] at this;exact this
  try clear n3 q0 g0 p0 f0 q1 g1 r1
  refine xN w4.heap.size zT zT ?_;refine zI zT (fun K hK => ?_);refine kG ?_ (fun W hW => ?_) (hK _ ?_);rotate_left 1
  ·skip
   go_simp
   try rfl
  clear hK;clear K;try simp only [zU, qI, qX, qY]
  refine zI zT (fun K hK => ?_);refine kG ?_ (fun W hW => ?_) (hK _ ?_);rotate_left 1
  ·skip
   obtain ⟨p0, f0⟩ := blk (HB.out _ (zX hb4 hW));obtain ⟨p3, f3⟩ := blk (HB4.out _ hW);obtain ⟨_, _, _, _, c3, _, _⟩ := HAT.out _ (zX hb4 hW);go_simp
   try rfl
  clear hK;clear K;try simp only [zU, qI, qX, qY]
  refine zI zT (fun K hK => ?_);refine kG ?_ (fun W hW => ?_) (hK _ ?_);rotate_left 1
  ·skip
   go_simp
   try rfl
  clear hK;clear K;try simp only [zU, qI, qX, qY]
  refine zI zT (fun K hK => ?_);refine kG ?_ (fun W hW => ?_) (hK _ ?_);rotate_left 1
  ·skip
   obtain ⟨p0, f0⟩ := blk (HB.out _ (zX hb4 hW));obtain ⟨p3, f3⟩ := blk (HB4.out _ hW);obtain ⟨_, _, _, _, c3, _, _⟩ := HAT.out _ (zX hb4 hW);go_simp
   try rfl
  clear hK;clear K;try simp only [zU, qI, qX, qY]
  refine zI zT (fun K hK => ?_);refine kG ?_ (fun W hW => ?_) (hK _ ?_);rotate_left 1
  ·skip
   go_simp
   try rfl
  clear hK;clear K;try simp only [zU, qI, qX, qY]
  refine zI zT (fun K hK => ?_);refine kG ?_ (fun W hW => ?_) (hK _ ?_);rotate_left 1
  ·skip
   go_simp
   try rfl
  clear hK;clear K;try simp only [zU, qI, qX, qY]
  refine zI zT (fun K hK => ?_);refine kG ?_ (fun W hW => ?_) (hK _ ?_);rotate_left 1
  ·skip
   obtain ⟨p0, f0⟩ := blk (HB.out _ (zX hb4 hW));obtain ⟨p3, f3⟩ := blk (HB4.out _ hW);obtain ⟨_, _, _, _, c3, _, _⟩ := HAT.out _ (zX hb4 hW);go_simp
   try rfl
  clear hK;clear K;try simp only [zU, qI, qX, qY]
  refine zI zT (fun K hK => ?_);refine kG ?_ (fun W hW => ?_) (hK _ ?_);rotate_left 1
  ·skip
   go_simp
   try rfl
  clear hK;clear K;try simp only [zU, qI, qX, qY]
  refine zI zT (fun K hK => ?_);refine kG ?_ (fun W hW => ?_) (hK _ ?_);rotate_left 1
  ·skip
   obtain ⟨p0, f0⟩ := blk (HB.out _ (zX hb4 hW));obtain ⟨p3, f3⟩ := blk (HB4.out _ hW);obtain ⟨_, _, _, _, c3, _, _⟩ := HAT.out _ (zX hb4 hW);go_simp
   try rfl
  clear hK;clear K;try simp only [zU, qI, qX, qY]
  refine zI zT (fun K hK => ?_);refine uJ (f := ?_) (args := ?_) ?_ (fun W hW => ?_) (fun W hW => ?_) (hK _ ?_);rotate_left 3
  ·go_simp
   constructor <;> rfl
  ·refine (HAr.out _ hW).mono ?_
   rintro e W2 ⟨rfl, hbW⟩;refine ⟨?_, zX hW hbW⟩
   rfl
  clear hK;clear K;try simp only [zU, qI, qX, qY]
  refine zI zT (fun K hK => ?_);refine kG ?_ (fun W hW => ?_) (hK _ ?_);rotate_left 1
  ·skip
   go_simp
   try rfl
  clear hK;clear K;try simp only [zU, qI, qX, qY]
  refine zI zT (fun K hK => ?_);refine kG ?_ (fun W hW => ?_) (hK _ ?_);rotate_left 1
  ·skip
   go_simp
   try rfl
  clear hK;clear K;try simp only [zU, qI, qX, qY]
  refine zI zT (fun K hK => ?_);refine kG ?_ (fun W hW => ?_) (hK _ ?_);rotate_left 1
  ·skip
   go_simp
   try rfl
  clear hK;clear K;try simp only [zU, qI, qX, qY]
  refine zI zT (fun K hK => ?_);refine kG ?_ (fun W hW => ?_) (hK _ ?_);rotate_left 1
  ·skip
   go_simp
   try rfl
  clear hK;clear K;try simp only [zU, qI, qX, qY]
  refine zI zT (fun K hK => ?_);refine kG ?_ (fun W hW => ?_) (hK _ ?_);rotate_left 1
  ·skip
   go_simp
   try rfl
  clear hK;clear K;try simp only [zU, qI, qX, qY]
  refine wpQuiet_nil (fun X6 hstX6 => ?_);have hcX6 := zX hb4 hstX6;obtain ⟨p0, f0⟩ := blk (HB.out _ hcX6);go_wp2_with fail;go_ret;rw [HR.out];exact ⟨rfl, H1.out.trans (hcX6.mono hs1)⟩
 ·rw [hm] at HM HR
  rw [if_pos rfl, if_neg hc] at HR;rw [decide_eq_false hc] at HO;have HR := zA HR.out;obtain ⟨A, B, hAB⟩ : ∃ A B, qV s = (A, B) := ⟨_, _, rfl⟩;have hsel : selS s = cellsD s.lines A B := by unfold selS; rw [hAB]
  rw [hsel] at HR;rw [hAB] at HSp;have HVF := HVF;have hL : (cellsD s.lines A B).length ≤ 100000 := Nat.le_trans (zBG _ _ _) hs.1;have HL := zA hL;obtain ⟨p0, f0⟩ := blk k0;obtain ⟨va, vc, rfl⟩ := h.slice;clear h he hs hf hm hc hAB hsel hL k0 hB;refine (callsIn_wide (n := 6)).1 ?_;refine callsIn_of_wp_marks Tryz.func112 rfl trivial ?_ rfl;simp only [Tryz.ntmps112, List.size_toArray, List.length_cons, List.length_nil, Nat.reduceAdd, Nat.reduceSub, Array.replicate_succ, Array.replicate_zero, List.push_toArray, List.append_toArray, List.nil_append, List.cons_append];have hwf : ∀ f, Fence.wide.fn f := fun _ => trivial;have hwd : Fence.wide.depth = none := rfl
  gi_wp2_with (first
   | (gi_at_call 23; refine (callsIn_wide.2 (HM.out _ hw0)).mono ?_; rintro e w2 ⟨rfl, hb2⟩; obtain ⟨q0, g0⟩ := blk (HB.out _ hb2))
   | (gi_at_call 114; refine (callsIn_wide.2 (HSp.out _ hb2)).mono ?_; rintro e w3 ⟨rfl, hst3⟩; have hb3 := zX hb2 hst3; obtain ⟨q1, g1⟩ := blk (HB.out _ hb3); have HA3 : Hid (∀ X Y, Below W1.heap.size W1 ((w3.alloc X).alloc Y)) := zA fun X Y => (hb3.alloc hb3.size X).alloc (by have := hb3.size; simp; omega) Y; have hz3 := hb3.size; have e3 : ¬ w3.heap.size = w.heap.size := qD; have r1 := zBk (HB.out _ hb3))
   | (gi_at_call 115; refine (callsIn_wide.2 (HO.out _ (HA3.out _ _))).mono ?_; rintro e w4 ⟨rfl, hst4⟩; have hb4 := zX (HA3.out _ _) hst4; obtain ⟨q2, g2⟩ := blk (HB.out _ hb4); have n3 := zY hst4 (zZ _ (.cells #[.int .i64 B.line, .int .i64 B.col] 24) (qG w3 (.cells #[.int .i64 A.line, .int .i64 A.col] 24) rfl)); have n4 := zY hst4 (qG (w3.alloc (.cells #[.int .i64 A.line, .int .i64 A.col] 24)) (.cells #[.int .i64 B.line, .int .i64 B.col] 24) (B := w3.heap.size + 1) qF); obtain ⟨q3, g3⟩ := blk n3; obtain ⟨q4, g4⟩ := blk n4; have r2 := zBk (HB.out _ hb4); have r3 := zBk n3; have r4 := zBk n4)
   | (gi_at_call 124; refine (callsIn_wide.2 (zDv _ _ _ A B _)).mono ?_; rintro e w5 ⟨rfl, rfl⟩))
  have hx4 : Below w.heap.size w w4 := H1.out.trans (hb4.mono hs1);have hz4 := hb4.size;have hz34 : w3.heap.size + 2 ≤ w4.heap.size := by have := hst4.size; simpa using this
  obtain ⟨w6, hw6⟩ : ∃ w6, ((((w4.alloc (.cells #[.int .i64 15] 3)).alloc (.cells #[.int .i64 0] 3)).alloc (.cells #[.slice va s.lines.length vc] 22)).alloc (.cells #[.int .i64 A.line, .int .i64 A.col] 24)).alloc (.cells #[.int .i64 B.line, .int .i64 B.col] 24) = w6 := ⟨_, rfl⟩;rw [hw6];have hb46 : Below w4.heap.size w4 w6 := hw6 ▸ (((((zE _ _).alloc (zC _) _).alloc qF _).alloc jB _).alloc jB _).alloc jB _;have hz6 : w6.heap.size = w4.heap.size + 5 := by rw [← hw6]; simp
  have m0 : w6.heap[w4.heap.size]? = some (.cells #[.int .i64 15] 3) := hw6 ▸ zZ _ _ (zZ _ _ (zZ _ _ (zZ _ _ (qG _ _ rfl))));have m1 : w6.heap[w4.heap.size + 1]? = some (.cells #[.int .i64 0] 3) := hw6 ▸ zZ _ _ (zZ _ _ (zZ _ _ (qG _ _ qF)));have m2 : w6.heap[w4.heap.size + 1 + 1]? = some (.cells #[.slice va s.lines.length vc] 22) := hw6 ▸ zZ _ _ (zZ _ _ (qG _ _ qF));have m3 : w6.heap[w4.heap.size + 1 + 1 + 1]? = some (.cells #[.int .i64 A.line, .int .i64 A.col] 24) := hw6 ▸ zZ _ _ (qG _ _ qF);have m4 : w6.heap[w4.heap.size + 1 + 1 + 2]? = some (.cells #[.int .i64 B.line, .int .i64 B.col] 24) := hw6 ▸ qG _ _ qF;have hb6 : Below w.heap.size w w6 := hx4.trans (hb46.mono hx4.size);have hBI : BI w w4.heap.size (w4.heap.size + 1) w6.heap.size [] w6 := ⟨m0, m1, hb6, zC _⟩;have N0 := zA (zB m2 (zB m3 (zB m4 (zY hb46 n3))));clear hw6 m0 m1 m2 m3 m4 n3 n4 q0 g0 q1 g1 q2 g2 q3 g3 q4 g4 r1 r2 r3 r4 p0 f0 hW1
  refine zDk rfl qD (gf := 204) (lb := #[.pointer (some ⟨w4.heap.size + 1 + 1, 0, none⟩), .pointer (some ⟨w4.heap.size + 1 + 1 + 1, 0, none⟩), .pointer (some ⟨w4.heap.size + 1 + 1 + 2, 0, none⟩)]) rfl trivial (enters_of Tryz.func204 zT rfl)
   (encs := fun c : Cel => #[celV c]) (n₀ := w.heap.size) (base := w6.heap.size) (Bs := w3.heap.size) (S := fun ys => ys = cellsD s.lines A B) (Sp := fun pre => pre <+: cellsD s.lines A B) (N := 200000) (w0 := w6) ?seq hb6.size qD (zE _ _) (fun _ => rfl)
   (BI w w4.heap.size (w4.heap.size + 1) w6.heap.size) (fun _ _ _ => False) (zNK hb6.size) (fun _ _ _ _ _ hs _ _ => hs) hBI (fun _ _ h => h.2.2.2)
   (fun x => #[.int .i32 x.r, .int .i64 x.bits, .string ⟨x.href.toArray⟩]) 57 ?act ?assign ?body ?done ?stop
  case seq =>
   intro l J Jx W hW hJ _ hY h0;have hzW := hW.size
   exact zDw 5 l (w4.heap.size + 1 + 1) (w4.heap.size + 1 + 1 + 1) (w4.heap.size + 1 + 1 + 2) w6.heap.size w3.heap.size (.slice va s.lines.length vc) s.lines A B S J Jx w W HVF.out.1 HVF.out.2.1 HVF.out.2.2.1 HVF.out.2.2.2 (hb6.trans (hW.mono hb6.size)) hW.size (zY hW N0.out.1) (zY hW N0.out.2.1) (zY hW N0.out.2.2.1) qD
    (by unfold yG; rw [jT (zY hW N0.out.2.2.2)]; rfl) hJ hY h0
  case assign =>
   intro l pre x W K Bx hBx hI hK;unfold celV
   gi_wp2
   rw [← hBx];exact hK
  case body =>
   intro l pre x Bx W hI hBx hbx hlt;obtain ⟨t0, t1, hb, hz⟩ := hI;obtain ⟨s0, s0f⟩ := blk t0;obtain ⟨s1, s1f⟩ := blk t1;obtain ⟨sx, sxf⟩ := blk hbx;obtain ⟨a, ha⟩ : ∃ a, andB pre = a := ⟨_, rfl⟩;have HA := zA (zB t0 (zB t1 (zB hb hz)));have HSN : Hid (andB (pre ++ [x]) = bits .and .i64 a x.bits ∧ (pre ++ [x]).length = pre.length + 1) := zA ⟨by rw [zLQ, ha], by simp⟩;rw [ha] at s0 HA;have e1 : ¬ w4.heap.size = w4.heap.size + 1 := by omega
   have e2 : ¬ w4.heap.size + 1 = w4.heap.size := by omega
   clear t0 t1 hb hz ha
   gi_wp2_with fail
   have hwz := hb6.size;have hzW := HA.out.2.2.2;refine ⟨((KeepsOthers.setCell _ _ _).trans (KeepsOthers.setCell _ _ _)).from _, (Kd.setCell _ qD qD qD _).t (Kd.setCell _ qD qD qD _), ?_, ?_, ?_, ?_⟩
   ·show (World.heap _)[_]? = _
    rw [jO, if_neg qF, jO, if_pos rfl, show W.heap[w4.heap.size]? = _ from HA.out.1, HSN.out.1]; rfl
   ·show (World.heap _)[_]? = _
    rw [jO, if_pos rfl, jO, if_neg qF, show W.heap[w4.heap.size + 1]? = _ from HA.out.2.1, HSN.out.2]
    rfl
   ·exact (HA.out.2.2.1.setCell (by show w.heap.size ≤ w4.heap.size; omega) _).setCell (by show w.heap.size ≤ w4.heap.size + 1; omega) _
   ·simpa only [World.size_setCell] using hzW
  case done =>
   rintro D ys W hD hys ⟨t0, t1, hb, hz⟩ hK;subst hys;obtain ⟨s0, s0f⟩ := blk t0;obtain ⟨s1, s1f⟩ := blk t1;have HB9 := zA hb;have HK9 := zA hK;have HL9 := HL.out;clear hb hK t0 t1 HVF N0 hBI
   generalize cellsD s.lines A B = L at *
   cases L with
   | nil =>
    gi_wp2_with fail
    refine ⟨by simp, .inl ⟨_, _, rfl, run_takeDeferred HK9.out, ?_⟩⟩;refine ⟨.int .i64 0, by simp [results, Tryz.results112, go_sem], ?_⟩;rw [HR.out];exact ⟨rfl, HB9.out.trans (belowK_b (w := w) (zC _) W D _ _ (by have := hb6.size; omega) HK9.out rfl rfl)⟩
   | cons c l =>
    have HR : Hid (yH s = andB (c :: l)) := zA (HR.out.trans (if_neg qF));obtain ⟨n, hn⟩ : ∃ n, (c :: l).length = n := ⟨_, rfl⟩;have hn0 : ((n : Int) == 0) = false := by rw [← hn]; simp; omega
    obtain ⟨a, ha⟩ : ∃ a, andB (c :: l) = a := ⟨_, rfl⟩;rw [hn] at s1 HL9;rw [ha] at s0 HR;clear hn ha
    gi_wp2_with fail
    refine ⟨by simp, .inl ⟨_, _, rfl, run_takeDeferred HK9.out, ?_⟩⟩;refine ⟨.int .i64 a, by simp [results, Tryz.results112, go_sem], ?_⟩;rw [HR.out];exact ⟨rfl, HB9.out.trans (belowK_b (w := w) (zC _) W D _ _ (by have := hb6.size; omega) HK9.out rfl rfl)⟩
  case stop =>
   rintro D c pre W _ _ h _;exact h.elim
set_option maxRecDepth 100000 in
theorem zJY (v : Value) (s : St) (t : Int) (w : World) (S : Nat → Prop) (h : jD w S v s.lines) (he : EnvT w) (hs : Small s.lines) (hf : Fits s.lines) :
  Calls zV 49 #[stV v s, .int .i64 t] w fun e w' => e = .returned (.bool (hasS s t)) ∧ Below w.heap.size w w' := by
 obtain ⟨W1, hW1, hB, hz, k0⟩ := vJ w v s;have HB : Hid (∀ W, Below W1.heap.size W1 W → W.heap[w.heap.size]? = some (.cells #[v, .int .i64 s.anc.line, .int .i64 s.anc.col, .int .i64 s.foc.line, .int .i64 s.foc.col, .int .i64 s.on, .int .i64 s.off] 26)) := zA fun W hW => zY hW k0;have hs1 := hB.size;have H1 := zA hB;have hw0 : Below W1.heap.size W1 W1 := zE _ _;have HV : Hid (∀ W, Below W1.heap.size W1 W → jD W S v s.lines) := zA fun W hW => h.below (jW _) (hB.trans (hW.mono hs1));have HE : Hid (∀ W, Below W1.heap.size W1 W → EnvT W) := zA fun W hW => (he.below hB).below hW;have HC : Hid (∀ W, Below W1.heap.size W1 W → Calls zV 112 #[stV v s] W fun e w' => e = .returned (.int .i64 (yH s)) ∧ Below W.heap.size W w') := zA fun W hW => zFg v s W S (HV.out W hW) (HE.out W hW) hs hf;have HR : Hid (hasS s t = (!(t == 0) && (bits .and .i64 (yH s) t == t))) := zA rfl;obtain ⟨p0, f0⟩ := blk k0;obtain ⟨va, vc, rfl⟩ := h.slice;clear h he hs hf k0 hB
 generalize yH s = r at *
 by_cases ht : t = 0
 ·subst ht
  go_enter Tryz.func49, Tryz.ntmps49;go_wp2_with fail;go_ret;rw [HR.out];exact ⟨rfl, H1.out⟩
 ·have ht' : (t == 0) = false := by simpa using ht
  have ht2 : (t != 0) = true := by simpa using ht
  clear ht;rw [ht'] at HR;go_enter Tryz.func49, Tryz.ntmps49;go_wp2_with (go_at_call 112; refine (HC.out _ hw0).mono ?_; rintro e w2 ⟨rfl, hb2⟩);go_ret;rw [HR.out];exact ⟨rfl, H1.out.trans (hb2.mono hs1)⟩
set_option maxRecDepth 100000 in
theorem zIm (v : Value) (s : St) (t : Int) (w : World) (S : Nat → Prop) (h : jD w S v s.lines) (he : EnvT w) (hs : Small s.lines) (hf : Fits s.lines) :
  Calls zV 54 #[stV v s, .int .i64 t] w fun e w' => e = .returned (.bool (yY s t)) ∧ Below w.heap.size w w' := by
 obtain ⟨W1, hW1, hB, hz, k0⟩ := vJ w v s;have HB : Hid (∀ W, Below W1.heap.size W1 W → W.heap[w.heap.size]? = some (.cells #[v, .int .i64 s.anc.line, .int .i64 s.anc.col, .int .i64 s.foc.line, .int .i64 s.foc.col, .int .i64 s.on, .int .i64 s.off] 26)) := zA fun W hW => zY hW k0;have hs1 := hB.size;have H1 := zA hB;have hw0 : Below W1.heap.size W1 W1 := zE _ _;have HV : Hid (∀ W, Below W1.heap.size W1 W → jD W S v s.lines) := zA fun W hW => h.below (jW _) (hB.trans (hW.mono hs1));have HE : Hid (∀ W, Below W1.heap.size W1 W → EnvT W) := zA fun W hW => (he.below hB).below hW;have HM : Hid (∀ W, Below W1.heap.size W1 W → Calls zV 23 #[stV v s] W fun e w' => e = .returned (.bool (mayS s)) ∧ Below W.heap.size W w') := zA fun W hW => vV v s W S (HV.out W hW) (HE.out W hW) hs;have HSp : Hid (∀ W, Below W1.heap.size W1 W → Calls zV 114 #[stV v s] W fun e w' => e = .returned (.tuple #[.agg #[.int .i64 (qV s).1.line, .int .i64 (qV s).1.col], .agg #[.int .i64 (qV s).2.line, .int .i64 (qV s).2.col]]) ∧ Below W.heap.size W w') := zA fun W _ => zAm v s W;have HO : Hid (∀ W, Below W1.heap.size W1 W → Calls zV 115 #[stV v s] W fun e w' => e = .returned (.bool (!decide (s.anc = s.foc))) ∧ Below W.heap.size W w') := zA fun W _ => zCs v s W;have HR : Hid (yY s t = (mayS s && (!decide (s.anc = s.foc) && (uG (selS s) t && !allL (selS s) t)))) := zA rfl;obtain ⟨A, B, hAB⟩ : ∃ A B, qV s = (A, B) := ⟨_, _, rfl⟩;have hsel : selS s = cellsD s.lines A B := by unfold selS; rw [hAB]
 rw [hsel] at HR;rw [hAB] at HSp;clear hAB hsel
 have HSo : Hid (∀ W, Below W1.heap.size W1 W → Calls zV 116 #[v, .agg #[.int .i64 A.line, .int .i64 A.col], .agg #[.int .i64 B.line, .int .i64 B.col], .int .i64 t] W fun e w' => e = .returned (.bool (uG (cellsD s.lines A B) t)) ∧ Below W.heap.size W w') := zA fun W hW => by
  have := zFp v s.lines A B t W S _ rfl (HV.out W hW) (HE.out W hW) hs;rw [zGb] at this;exact this
 have HAl : Hid (∀ W, Below W1.heap.size W1 W → Calls zV 117 #[v, .agg #[.int .i64 A.line, .int .i64 A.col], .agg #[.int .i64 B.line, .int .i64 B.col], .int .i64 t] W fun e w' => e = .returned (.bool (allL (cellsD s.lines A B) t)) ∧ Below W.heap.size W w') := zA fun W hW => by
  have := zFT v s.lines A B t W S _ rfl (HV.out W hW) (HE.out W hW) hs;rw [zGc] at this;exact this
 obtain ⟨p0, f0⟩ := blk k0;obtain ⟨va, vc, rfl⟩ := h.slice;clear h he hs hf k0 hB HV HE
 generalize yY s t = R at *
 generalize uG (cellsD s.lines A B) t = x at *
 generalize allL (cellsD s.lines A B) t = y at *
 generalize mayS s = m at *
 generalize decide (s.anc = s.foc) = u at *
 cases m
 all_goals
  cases u
  all_goals
   cases x
   all_goals
    go_enter Tryz.func54, Tryz.ntmps54
    go_wp2_with (first
     | (go_at_call 114; refine (HSp.out _ hw0).mono ?_; rintro e w3 ⟨rfl, hb3⟩; obtain ⟨q1, g1⟩ := blk (HB.out _ hb3); have HA3 : Hid (∀ X Y, Below W1.heap.size W1 ((w3.alloc X).alloc Y)) := zA fun X Y => (hb3.alloc hb3.size X).alloc (by have := hb3.size; simp; omega) Y; have hz3 := hb3.size; have e3 : ¬ w3.heap.size = w.heap.size := qD; have r1 := zBk (HB.out _ hb3))
     | (go_at_call 23; refine (HM.out _ (HA3.out _ _)).mono ?_; rintro e w4 ⟨rfl, hst4⟩; have hb4 := zX (HA3.out _ _) hst4; obtain ⟨q2, g2⟩ := blk (HB.out _ hb4); have n3 := zY hst4 (zZ _ (.cells #[.int .i64 B.line, .int .i64 B.col] 24) (qG w3 (.cells #[.int .i64 A.line, .int .i64 A.col] 24) rfl)); have n4 := zY hst4 (qG (w3.alloc (.cells #[.int .i64 A.line, .int .i64 A.col] 24)) (.cells #[.int .i64 B.line, .int .i64 B.col] 24) (B := w3.heap.size + 1) qF))
     | (go_at_call 115; refine (HO.out _ hb4).mono ?_; rintro e w5 ⟨rfl, hst5⟩; have hb5 := zX hb4 hst5; obtain ⟨q5, g5⟩ := blk (HB.out _ hb5); obtain ⟨q3, g3⟩ := blk (zY hst5 n3); obtain ⟨q4, g4⟩ := blk (zY hst5 n4))
     | (go_at_call 116; refine (HSo.out _ hb5).mono ?_; rintro e w6 ⟨rfl, hst6⟩; have hb6 := zX hb5 hst6; have hst56 := zX hst5 hst6; obtain ⟨q6, g6⟩ := blk (HB.out _ hb6); obtain ⟨q7, g7⟩ := blk (zY hst56 n3); obtain ⟨q8, g8⟩ := blk (zY hst56 n4))
     | (go_at_call 117; refine (HAl.out _ hb6).mono ?_; rintro e w7 ⟨rfl, hst7⟩; have hb7 := zX hb6 hst7))
    go_ret;refine ⟨?_, H1.out.trans (Below.mono (by first | exact hb7 | exact hb6 | exact hb5 | exact hb4) hs1)⟩;rw [HR.out]
    rfl
end Go.Proofs.YtcliojeoindceaaGreatDoor
namespace Go.Proofs.Qw
open Go.RowKit Go.Proofs.YtcliojeoindceaaGreatDoor
theorem zKp (c : Cel) (l : List Cel) : zEp (c :: l) = if ((c :: l).any fun x => !decide (x.href = c.href)) = true then [] else c.href := by
 have h : ((c :: l).any fun x => !decide (x.href = c.href)) = !(l.all fun x => decide (x.href = c.href)) := by
  rw [List.any_cons, List.all_eq_not_any_not]
  simp
 rw [h]
 show (if l.all (fun x => decide (x.href = c.href)) = true then c.href else []) = _
 cases l.all (fun x => decide (x.href = c.href)) <;> rfl
end Go.Proofs.Qw
namespace Go.Proofs.YtcliojeoindceaaGreatDoor
open Go.RowKit
open Go.Proofs.Qw
open _root_.Go.Lib renaming hid → zA
open _root_.Go.RowKit.Below renaming refl → zE, setCell → zF, alloc → zG, drew → zH
open _root_.Go renaming bodyPost_ret → zM
open _root_.Go.Proofs.Tryz renaming prog → zV
open _root_.Go.Proofs.YtcliojeoindceaaGreatDoor renaming jG → zX
open _root_.Go.Proofs.Qw renaming jW → qB
theorem zMv (a b : List UInt8) : (a != b) = !decide (a = b) := by
 by_cases h : a = b
 ·subst h; simp
 ·rw [decide_eq_false h]; simpa using h
theorem zIo (B : Nat) (v : Value) (c : Cel) (l : List Cel) (x : Cel) (w : World) (S : Nat → Prop) (h : jE false w S v (c :: l)) (hB : w.heap[B]? = some (.cells #[v] 58)) :
  Calls zV 126 #[celV x, .pointer (some ⟨B, 0, none⟩)] w fun e w' => e = .returned (.bool (!decide (x.href = c.href))) ∧ Below w.heap.size w w' := by
 have hlt := (Array.getElem?_eq_some_iff.1 hB).1;obtain ⟨a, cc, rfl, hcc, hm, hx⟩ := uT h;obtain ⟨b, o, rfl, hz, c0, c1, c2⟩ := hx 0 c rfl;have c2' := c2;rw [Nat.zero_mul, Nat.add_zero] at c2';have p2 : ∀ ob, (w.alloc ob).cell? ⟨B, 0, none⟩ = some (.slice (some ⟨b, o, none⟩) (c :: l).length cc) := fun ob => on1 hB ob 0;have p3 : ∀ ob, (w.alloc ob).cell? ⟨b, o + 2, none⟩ = some (.string ⟨c.href.toArray⟩) := fun ob => (World.cell?_of_block (heap_alloc_old _ _ hz)).trans c2';have ne : ¬ B = w.heap.size := by omega
 have ne2 : ¬ b = w.heap.size := by omega
 have HQ := zA (zMv x.href c.href);unfold maxLen at hm;obtain ⟨n, hn⟩ : ∃ n, (c :: l).length = n := ⟨_, rfl⟩;have n0 : (0 : Int) < (n : Int) := by rw [← hn]; simp
 rw [hn] at p2 hcc;clear hn h hx c0 c1 c2 hB;unfold celV;go_enter Tryz.func126, Tryz.ntmps126;go_wp2_with fail;go_region;go_wp2_with fail;go_ret;rw [← HQ.out];exact ⟨rfl, by ((with_reducible repeat' first | exact zE _ _ | assumption | refine zG ?_ ?_ _ | refine zH ?_ | refine jQ ?_ | refine zF ?_ ?_ _) <;> go_size)⟩
set_option maxRecDepth 100000 in
theorem zJa (v : Value) (s : St) (w : World) (S : Nat → Prop) (h : jD w S v s.lines) (he : EnvT w) (hs : Small s.lines) (hf : Fits s.lines) :
  Calls zV 60 #[stV v s] w fun e w' => e = .returned (.string ⟨(zBt s).toArray⟩) ∧ Below w.heap.size w w' := by
 obtain ⟨W1, hW1, hB, hz, k0⟩ := vJ w v s;have HB : Hid (∀ W, Below W1.heap.size W1 W → W.heap[w.heap.size]? = some (.cells #[v, .int .i64 s.anc.line, .int .i64 s.anc.col, .int .i64 s.foc.line, .int .i64 s.foc.col, .int .i64 s.on, .int .i64 s.off] 26)) := zA fun W hW => jI hW k0;have hs1 := hB.size;have H1 := zA hB;have hw0 : Below W1.heap.size W1 W1 := zE _ _;have HV : Hid (∀ W, Below W1.heap.size W1 W → jD W S v s.lines) := zA fun W hW => h.below (qB _) (hB.trans (hW.mono hs1));have HE : Hid (∀ W, Below W1.heap.size W1 W → EnvT W) := zA fun W hW => (he.below hB).below hW;have HM : Hid (∀ W, Below W1.heap.size W1 W → Calls zV 23 #[stV v s] W fun e w' => e = .returned (.bool (mayS s)) ∧ Below W.heap.size W w') := zA fun W hW => vV v s W S (HV.out W hW) (HE.out W hW) hs;have HR : Hid (zBt s = if mayS s = true then zEp (cellsD s.lines (kP s).1 (kP s).2) else []) := zA rfl;have HVF := zA (And.intro hs hf);cases hm : mayS s
 ·rw [hm] at HM HR
  have HR : Hid (zBt s = []) := zA (HR.out.trans (if_neg qF));obtain ⟨p0, f0⟩ := blk k0;obtain ⟨va, vc, rfl⟩ := h.slice;clear h he hs hf k0 hB hm;go_enter Tryz.func60, Tryz.ntmps60;go_wp2_with ((go_at_call 23; refine (HM.out _ hw0).mono ?_; rintro e w2 ⟨rfl, hst2⟩; have hb2 := zX hw0 hst2; skip));go_ret;rw [HR.out];exact ⟨rfl, H1.out.trans (hb2.mono hs1)⟩
 ·have hA := (yK hm).2.1
  rw [hm] at HM HR;rw [if_pos rfl] at HR;have HH : Hid (∀ W, Below W1.heap.size W1 W → Calls zV 122 #[stV v s] W fun e w' => e = .returned (.tuple #[.agg #[.int .i64 (kP s).1.line, .int .i64 (kP s).1.col], .agg #[.int .i64 (kP s).2.line, .int .i64 (kP s).2.col]]) ∧ Below W.heap.size W w') := zA fun W hW => zFf v s W S (HV.out W hW) hf hA;obtain ⟨A, B, hAB⟩ : ∃ A B, kP s = (A, B) := ⟨_, _, rfl⟩;rw [hAB] at HH HR;simp only at HH HR;have HL : Hid ((cellsD s.lines A B).length ≤ 100000) := zA (Nat.le_trans (zBG _ _ _) hs.1);obtain ⟨p0, f0⟩ := blk k0;obtain ⟨va, vc, rfl⟩ := h.slice;clear h he hs hf hm hA hAB k0 hB;go_enter Tryz.func60, Tryz.ntmps60
  go_wp2_with (first
   | (go_at_call 23; refine (HM.out _ hw0).mono ?_; rintro e w2 ⟨rfl, hst2⟩; have hb2 := zX hw0 hst2; obtain ⟨q0, g0⟩ := blk (HB.out _ hb2))
   | (go_at_call 122; refine (HH.out _ hb2).mono ?_; rintro e w3 ⟨rfl, hst3⟩; have hb3 := zX hb2 hst3; obtain ⟨q1, g1⟩ := blk (HB.out _ hb3); have hz3 := hb3.size; have e3 : ¬ w3.heap.size = w.heap.size := qD; have r1 := on2 (HB.out _ hb3))
   | (go_at_call 124; refine (zDv _ _ _ A B _).mono ?_; rintro e w5 ⟨rfl, rfl⟩))
  obtain ⟨w6, hw6⟩ : ∃ w6, ((((w3.alloc (.cells #[.int .i64 A.line, .int .i64 A.col] 24)).alloc (.cells #[.int .i64 B.line, .int .i64 B.col] 24)).alloc (.cells #[.slice va s.lines.length vc] 22)).alloc (.cells #[.int .i64 A.line, .int .i64 A.col] 24)).alloc (.cells #[.int .i64 B.line, .int .i64 B.col] 24) = w6 := ⟨_, rfl⟩;rw [hw6];have hb36 : Below w3.heap.size w3 w6 := hw6 ▸ zBY (zAf (zE _ _) _ _) _ _ _;have hz6 : w6.heap.size = w3.heap.size + 5 := by rw [← hw6]; simp
  have m2 : w6.heap[w3.heap.size + 1 + 1]? = some (.cells #[.slice va s.lines.length vc] 22) := hw6 ▸ jK _ _ (jK _ _ (jF _ _ qF));have m3 : w6.heap[w3.heap.size + 1 + 1 + 1]? = some (.cells #[.int .i64 A.line, .int .i64 A.col] 24) := hw6 ▸ jK _ _ (jF _ _ qF);have m4 : w6.heap[w3.heap.size + 1 + 1 + 2]? = some (.cells #[.int .i64 B.line, .int .i64 B.col] 24) := hw6 ▸ jF _ _ qF;have hb6 := zX hb3 hb36;have HCo := zA (zJF (w3.heap.size + 1 + 1) (w3.heap.size + 1 + 1 + 1) (w3.heap.size + 1 + 1 + 2) _ s.lines A B w6 S (HV.out _ hb6) (HE.out _ hb6) HVF.out.1 HVF.out.2 m2 m3 m4);clear m2 m3 m4 hw6 q0 g0 q1 g1 r1 p0 f0 hW1;have HL9 := HL.out
  generalize cellsD s.lines A B = L at *
  cases L with
  | nil =>
   go_wp2_with (go_at_call 123; refine HCo.out.mono ?_; intro e w7 hcc; obtain ⟨v7, rfl, hv7, hb7⟩ := hcc; obtain ⟨a7, c7, rfl⟩ := hv7.slice; clear hv7);go_ret;rw [HR.out];exact ⟨rfl, H1.out.trans ((yP (zX hb6 hb7) _).mono hs1)⟩
  | cons c l =>
   rw [zKp] at HR;obtain ⟨n, hn⟩ : ∃ n, (c :: l).length = n := ⟨_, rfl⟩;have hn0 : ((n : Int) == 0) = false := by rw [← hn]; simp; omega
   have n0 : (0 : Int) < (n : Int) := by rw [← hn]; simp
   have HN := zA hn;rw [hn] at HL9;clear hn;obtain ⟨r, hr⟩ : ∃ r, ((c :: l).any fun x => !decide (x.href = c.href)) = r := ⟨_, rfl⟩;rw [hr] at HR;have HAn := zA hr;clear hr;go_wp2_with (go_at_call 123; refine HCo.out.mono ?_; intro e w7 hcc; obtain ⟨v7, rfl, hv7, hb7⟩ := hcc; obtain ⟨a7, c7, hve⟩ := hv7.slice; rw [HN.out] at hve; subst hve; have HV7 := zA hv7; clear hv7);have hb7' := zX hb6 hb7;obtain ⟨a8, c8, hve, hcc8, hmm8, hx8⟩ := SliceR.shape_own HV7.out;rw [HN.out] at hve;cases hve;obtain ⟨b8, o8, vs8, cs8, rfl, hz8, hS8, _, _, _, hvs8, he8⟩ := hx8 0 c rfl;cases hvs8;have d2 := he8 2 _ rfl;rw [Nat.zero_mul, Nat.add_zero] at d2;have H8 : ∀ X, Below w7.heap.size w7 (w7.alloc X) := fun X => yP (zE _ _) X;obtain ⟨w8, hw8⟩ : ∃ w8, w7.alloc (.cells #[.slice (some ⟨b8, o8, none⟩) n c7] 58) = w8 := ⟨_, rfl⟩;rw [hw8];have hb78 : Below w7.heap.size w7 w8 := hw8 ▸ H8 _;have hb8 := zX hb7' hb78;have m8 : w8.heap[w7.heap.size]? = some (.cells #[.slice (some ⟨b8, o8, none⟩) n c7] 58) := hw8 ▸ jF _ _ rfl;have HB8 : Hid (∀ W, Below w8.heap.size w8 W → W.heap[w7.heap.size]? = some (.cells #[.slice (some ⟨b8, o8, none⟩) n c7] 58)) := zA fun W hW => jI hW m8;have HR8 : Hid (jE false w8 (fun b => w6.heap.size ≤ b) (.slice (some ⟨b8, o8, none⟩) n c7) (c :: l)) := zA (SliceR.below (jZ _) (SliceR.read (fun _ _ h => h) HV7.out) hb78);have HCn := zA (zED _ (c :: l) (fun x => !decide (x.href = c.href)) 126 #[.pointer (some ⟨w7.heap.size, 0, none⟩)] (enters_of Tryz.func126 zT rfl) w8 w8 _ HR8.out (HE.out _ hb8) (zE _ _) (fun i x W _ _ hW _ => zIo _ _ c l x W _ (SliceR.below (jZ _) HR8.out hW) (HB8.out W hW)));rw [HAn.out] at HCn;have d2' : ∀ W, Below w8.heap.size w8 W → W.cell? ⟨b8, o8 + 2, none⟩ = some (.string ⟨c.href.toArray⟩) := fun W hW => ((zX hb78 hW).cell (p := ⟨b8, o8 + 2, none⟩) hz8).trans d2;have HD := zA d2';obtain ⟨q8, g8⟩ := blk m8;clear hx8 he8 d2 d2' H8 hw8 m8;go_wp2_with (go_at_call 125; refine HCn.out.mono ?_; rintro e w9 ⟨rfl, hb9⟩; obtain ⟨q9, g9⟩ := blk (HB8.out _ hb9); have d9 := HD.out _ hb9; cases r)
   ·go_ret
    rw [HR.out];exact ⟨rfl, H1.out.trans ((zX hb8 hb9).mono hs1)⟩
   ·go_ret
    rw [HR.out];exact ⟨rfl, H1.out.trans ((zX hb8 hb9).mono hs1)⟩
theorem jS {fn : Func} {p u : Tmp} (h : fn.results = #[.cell p 26, .tmp u]) (tmps : Array Value) (w : World) (B : Nat) (a b c d e f g x : Value) (hp : tmps.getD p undef = .pointer (some ⟨B, 0, none⟩)) (hu : tmps.getD u undef = x) (hg : w.heap[B]? = some (.cells #[a, b, c, d, e, f, g] 26)) :
  (results fn tmps).run zV w = .ok (.tuple #[.agg #[a, b, c, d, e, f, g], x]) w := by
 have hp' : tmps[p]?.getD undef = .pointer (some ⟨B, 0, none⟩) := by simpa using hp
 have hu' : tmps[u]?.getD undef = x := by simpa using hu
 have e1 := run_loadVar_row (P := zV) w B 26 26 _ _ _ hg Tryz.underlying26 rfl zT;simp [results, h, hp', hu', asAddr, e1]
set_option maxRecDepth 100000 in
theorem zCj (v : Value) (s : St) (g : Nat) (lb : Array Value) (R : Doc × Int) (w : World) (S : Nat → Prop) (h : jD w S v s.lines) (he : EnvT w) (hs : Small s.lines)
  (eg : ∀ args w, (callFunc g args).run zV w = .ok (.enter g args) w)
  (hg : mayS s = true → ∀ W, Below w.heap.size w W → Calls zV g (#[v, posV (qV s).1, posV (qV s).2] ++ lb) W (DocSaid R W)) :
  Calls zV 156 #[stV v s, .func (.func g) #[] lb] w (StSaid (xI s R) w) := by
 obtain ⟨W1, hW1, hB, hz, k0, k1⟩ := xU w v s;have HB : Hid (∀ W, Below W1.heap.size W1 W → W.heap[w.heap.size]? = some (.cells #[v, .int .i64 s.anc.line, .int .i64 s.anc.col, .int .i64 s.foc.line, .int .i64 s.foc.col, .int .i64 s.on, .int .i64 s.off] 26) ∧ W.heap[w.heap.size + 1]? = some (.cells #[.slice none 0 0, .int .i64 0, .int .i64 0, .int .i64 0, .int .i64 0, .int .i64 0, .int .i64 0] 26)) := zA fun W hW => ⟨jI hW k0, jI hW k1⟩;have hs1 := hB.size;have H1 := zA hB;have hw0 : Below W1.heap.size W1 W1 := zE _ _;have HV : Hid (∀ W, Below W1.heap.size W1 W → jD W S v s.lines) := zA fun W hW => h.below (qB _) (hB.trans (hW.mono hs1));have HE : Hid (∀ W, Below W1.heap.size W1 W → EnvT W) := zA fun W hW => (he.below hB).below hW;have HM : Hid (∀ W, Below W1.heap.size W1 W → Calls zV 23 #[stV v s] W fun e w' => e = .returned (.bool (mayS s)) ∧ Below W.heap.size W w') := zA fun W hW => vV v s W S (HV.out W hW) (HE.out W hW) hs;have HR : Hid (xI s R = if mayS s = true then yM s R else (noS, 1)) := zA rfl;cases hm : mayS s
 ·rw [hm] at HM HR
  have HR : Hid (xI s R = (noS, 1)) := zA (HR.out.trans (if_neg qF));obtain ⟨p0, f0⟩ := blk k0;obtain ⟨p1, f1⟩ := blk k1;obtain ⟨va, vc, rfl⟩ := h.slice;clear h he hs hg k0 k1 hB hm;go_enter Tryz.func156, Tryz.ntmps156;go_wp2_with ((go_at_call 23; refine (HM.out _ hw0).mono ?_; rintro e w2 ⟨rfl, hst2⟩; have hb2 := zX hw0 hst2; obtain ⟨q1, g1⟩ := blk (HB.out _ hb2).2));refine zM (jS rfl _ _ (w.heap.size + 1) (.slice none 0 0) (.int .i64 0) (.int .i64 0) (.int .i64 0) (.int .i64 0) (.int .i64 0) (.int .i64 0) (.int .i64 1) rfl rfl zCY) rfl ?_;unfold StSaid;rw [HR.out];have hfin := H1.out.trans (hb2.mono hs1);exact ⟨_, rfl, SliceR.nil _ _ _ _ _ _, by ((with_reducible repeat' first | exact zE _ _ | assumption | refine zG ?_ ?_ _ | refine zH ?_ | refine jQ ?_ | refine zF ?_ ?_ _) <;> go_size)⟩
 ·have HG : Hid (∀ W, Below W1.heap.size W1 W → Calls zV g (#[v, posV (qV s).1, posV (qV s).2] ++ lb) W (DocSaid R W)) := zA fun W hW => hg hm W (hB.trans (hW.mono hs1))
  rw [hm] at HM HR;rw [if_pos rfl] at HR;have HR : Hid (xI s R = if R.2 = 0 then (⟨R.1, s.anc, s.foc, 0, 0⟩, 0) else (noS, R.2)) := zA HR.out;have HSp : Hid (∀ W, Below W1.heap.size W1 W → Calls zV 114 #[stV v s] W fun e w' => e = .returned (.tuple #[.agg #[.int .i64 (qV s).1.line, .int .i64 (qV s).1.col], .agg #[.int .i64 (qV s).2.line, .int .i64 (qV s).2.col]]) ∧ Below W.heap.size W w') := zA fun W hW => zAm v s W;obtain ⟨A, B, hAB⟩ : ∃ A B, qV s = (A, B) := ⟨_, _, rfl⟩;rw [hAB] at HSp HG;simp only at HSp HG;obtain ⟨D, er, hD⟩ : ∃ D er, R = (D, er) := ⟨_, _, rfl⟩;subst hD;have HP : Hid (∀ p : Ps, posV p = .agg #[.int .i64 p.line, .int .i64 p.col]) := zA fun _ => rfl;rw [HP.out, HP.out] at HG;obtain ⟨p0, f0⟩ := blk k0;obtain ⟨p1, f1⟩ := blk k1;obtain ⟨va, vc, rfl⟩ := h.slice;clear h he hs hg k0 k1 hB hm hAB
  by_cases h0 : er = 0
  ·subst h0
   have HR := zA (HR.out.trans (if_pos rfl));go_enter Tryz.func156, Tryz.ntmps156
   go_wp2_with (first
    | (go_at_call 23; refine (HM.out _ hw0).mono ?_; rintro e w2 ⟨rfl, hst2⟩; have hb2 := zX hw0 hst2; obtain ⟨q0, g0⟩ := blk (HB.out _ hb2).1)
    | (go_at_call 114; refine (HSp.out _ hb2).mono ?_; rintro e w3 ⟨rfl, hst3⟩; have hb3 := zX hb2 hst3; obtain ⟨q1, g1⟩ := blk (HB.out _ hb3).1; have hz3 := hb3.size; have e3 : ¬ w3.heap.size = w.heap.size := qD; have r1 := on2 (HB.out _ hb3).1; have HX3 : Hid (∀ X Y, Below W1.heap.size W1 ((w3.alloc X).alloc Y)) := zA fun X Y => hb3.trans (zAf (zE _ _) X Y |>.mono hz3))
    | (go_at_fn g; refine (HG.out _ (HX3.out _ _)).mono ?_; intro e w4 hsaid; obtain ⟨v4, rfl, hv4, hst4⟩ := hsaid; obtain ⟨a4, c4, rfl⟩ := hv4.slice; have hb4 := zX (HX3.out _ _) hst4; have HV4 := zA hv4; clear hv4; obtain ⟨q2, g2⟩ := blk (HB.out _ hb4).1; obtain ⟨q3, g3⟩ := blk (HB.out _ hb4).2))
   refine zM (jS rfl _ _ (w.heap.size + 1) (.slice a4 D.length c4) (.int .i64 s.anc.line) (.int .i64 s.anc.col) (.int .i64 s.foc.line) (.int .i64 s.foc.col) (.int .i64 0) (.int .i64 0) (.int .i64 0) rfl rfl (by simp [jO, jA, (HB.out _ hb4).2])) rfl ?_;unfold StSaid;rw [HR.out];have hfin := H1.out.trans (hb4.mono hs1);have hv4 := HV4.out;exact ⟨_, rfl, (SliceR.stable (qB _) hv4 zAQ (fun b h _ => jL)), by ((with_reducible repeat' first | exact zE _ _ | assumption | refine zG ?_ ?_ _ | refine zH ?_ | refine jQ ?_ | refine zF ?_ ?_ _) <;> go_size)⟩
  ·have HR2 : Hid (xI s (D, er) = (noS, er)) := zA (HR.out.trans (if_neg h0))
   have hne : (er != 0) = true := by simpa using h0
   have hne2 : (er == 0) = false := by simpa using h0
   clear h0 HR;go_enter Tryz.func156, Tryz.ntmps156
   go_wp2_with (first
    | (go_at_call 23; refine (HM.out _ hw0).mono ?_; rintro e w2 ⟨rfl, hst2⟩; have hb2 := zX hw0 hst2; obtain ⟨q0, g0⟩ := blk (HB.out _ hb2).1)
    | (go_at_call 114; refine (HSp.out _ hb2).mono ?_; rintro e w3 ⟨rfl, hst3⟩; have hb3 := zX hb2 hst3; obtain ⟨q1, g1⟩ := blk (HB.out _ hb3).1; have hz3 := hb3.size; have e3 : ¬ w3.heap.size = w.heap.size := qD; have r1 := on2 (HB.out _ hb3).1; have HX3 : Hid (∀ X Y, Below W1.heap.size W1 ((w3.alloc X).alloc Y)) := zA fun X Y => hb3.trans (zAf (zE _ _) X Y |>.mono hz3))
    | (go_at_fn g; refine (HG.out _ (HX3.out _ _)).mono ?_; intro e w4 hsaid; obtain ⟨v4, rfl, hv4, hst4⟩ := hsaid; obtain ⟨a4, c4, rfl⟩ := hv4.slice; have hb4 := zX (HX3.out _ _) hst4; have HV4 := zA hv4; clear hv4; obtain ⟨q2, g2⟩ := blk (HB.out _ hb4).1; obtain ⟨q3, g3⟩ := blk (HB.out _ hb4).2))
   refine zM (jS rfl _ _ (w.heap.size + 1) (.slice none 0 0) (.int .i64 0) (.int .i64 0) (.int .i64 0) (.int .i64 0) (.int .i64 0) (.int .i64 0) (.int .i64 er) rfl rfl (by simp [jO, jA, (HB.out _ hb4).2])) rfl ?_;unfold StSaid;rw [HR2.out];have hfin := H1.out.trans (hb4.mono hs1);exact ⟨_, rfl, SliceR.nil _ _ _ _ _ _, by ((with_reducible repeat' first | exact zE _ _ | assumption | refine zG ?_ ?_ _ | refine zH ?_ | refine jQ ?_ | refine zF ?_ ?_ _) <;> go_size)⟩
set_option maxRecDepth 100000 in
theorem zDP (v : Value) (s : St) (w : World) (S : Nat → Prop) (h : jD w S v s.lines) (hf : Fits s.lines) :
  Calls zV 31 #[stV v s] w fun e w' => ∃ v', e = .returned (stV v' s) ∧ DocR true w' (fun b => w.heap.size ≤ b) v' s.lines ∧ Below w.heap.size w w' := by
 obtain ⟨W1, hW1, hB, hz, k0, k1⟩ := xU w v s;have hs1 := hB.size;have HC := zA (zBL v s.lines W1 w S h hB hf);have HB : Hid (∀ W, Below W1.heap.size W1 W → W.heap[w.heap.size]? = some (.cells #[v, .int .i64 s.anc.line, .int .i64 s.anc.col, .int .i64 s.foc.line, .int .i64 s.foc.col, .int .i64 s.on, .int .i64 s.off] 26) ∧ W.heap[w.heap.size + 1]? = some (.cells #[.slice none 0 0, .int .i64 0, .int .i64 0, .int .i64 0, .int .i64 0, .int .i64 0, .int .i64 0] 26)) := zA fun W hW => ⟨jI hW k0, jI hW k1⟩;have H1 := zA hB;obtain ⟨p0, f0⟩ := blk k0;obtain ⟨va, vc, rfl⟩ := h.slice;clear h hf k0 k1 hB;go_enter Tryz.func31, Tryz.ntmps31;go_wp2_with (go_at_call 69; refine HC.out.mono ?_; rintro e w2 ⟨v2, rfl, hv2, hb2⟩; obtain ⟨a2, c2, rfl⟩ := hv2.slice; obtain ⟨q0, g0⟩ := blk (HB.out _ hb2).1; obtain ⟨q1, g1⟩ := blk (HB.out _ hb2).2; have HV := zA hv2; clear hv2);refine zM (zFC rfl _ _ (w.heap.size + 1) (.slice a2 s.lines.length c2) (.int .i64 s.anc.line) (.int .i64 s.anc.col) (.int .i64 s.foc.line) (.int .i64 s.foc.col) (.int .i64 s.on) (.int .i64 s.off) rfl zCY) rfl ?_;have hfin := H1.out.trans (hb2.mono hs1);have hv2 := HV.out;exact ⟨_, rfl, (SliceR.stable (qB _) hv2 zAQ (fun b h _ => jL)), by ((with_reducible repeat' first | exact zE _ _ | assumption | refine zG ?_ ?_ _ | refine zH ?_ | refine jQ ?_ | refine zF ?_ ?_ _) <;> go_size)⟩
end Go.Proofs.YtcliojeoindceaaGreatDoor
namespace Go.Proofs.Qw
open Go.RowKit Go.Proofs.YtcliojeoindceaaGreatDoor
def zBi (d : Doc) (p : Ps) : St := ⟨d, p, p, 0, 0⟩
end Go.Proofs.Qw
namespace Go.Proofs.YtcliojeoindceaaGreatDoor
open Go.RowKit
open Go.Proofs.Qw
attribute [local go_sem] Oper.semAt_some
theorem zNt (w : World) (p : Ps) : ∃ W1, (w.alloc (.cells #[.int .i64 p.line, .int .i64 p.col] 24)).alloc (.cells #[.slice none 0 0, .int .i64 0, .int .i64 0, .int .i64 0, .int .i64 0, .int .i64 0, .int .i64 0] 26) = W1 ∧ Below w.heap.size w W1 ∧ w.heap.size + 2 = W1.heap.size ∧ W1.heap[w.heap.size]? = some (.cells #[.int .i64 p.line, .int .i64 p.col] 24) ∧ W1.heap[w.heap.size + 1]? = some (.cells #[.slice none 0 0, .int .i64 0, .int .i64 0, .int .i64 0, .int .i64 0, .int .i64 0, .int .i64 0] 26) :=
 ⟨_, rfl, zAf (Below.refl _ _) _ _, by simp, jK _ _ (jF _ _ rfl), jF _ _ qF⟩
set_option maxRecDepth 100000 in
theorem zHR (a : Option Addr) (n c : Nat) (p : Ps) (w : World) :
  Calls Tryz.prog 223 #[.slice a n c, .agg #[.int .i64 p.line, .int .i64 p.col]] w fun e w' => e = .returned (.agg #[.slice a n c, .int .i64 p.line, .int .i64 p.col, .int .i64 p.line, .int .i64 p.col, .int .i64 0, .int .i64 0]) ∧ Below w.heap.size w w' := by
 obtain ⟨W1, hW1, hB, hz, k0, k1⟩ := zNt w p;have H1 := Lib.hid hB;have HK := Lib.hid k1;obtain ⟨p0, f0⟩ := blk k0;obtain ⟨p1, f1⟩ := blk k1;clear k0 k1 hB;go_enter Tryz.func223, Tryz.ntmps223;go_wp2_with fail;refine bodyPost_ret (zFC rfl _ _ (w.heap.size + 1) (.slice a n c) (.int .i64 p.line) (.int .i64 p.col) (.int .i64 p.line) (.int .i64 p.col) (.int .i64 0) (.int .i64 0) rfl (by simp [jO, jA, HK.out])) rfl ?_;have hfin := H1.out;exact ⟨rfl, by ((with_reducible repeat' first | exact Below.refl _ _ | assumption | refine Below.alloc ?_ ?_ _ | refine Below.drew ?_ | refine jQ ?_ | refine Below.setCell ?_ ?_ _) <;> go_size)⟩
end Go.Proofs.YtcliojeoindceaaGreatDoor
namespace Go.Proofs.Qw
open Go.RowKit Go.Proofs.YtcliojeoindceaaGreatDoor
def xE (l : List Int) : Int := l.getLastD (-1)
end Go.Proofs.Qw
namespace Go.Proofs.YtcliojeoindceaaGreatDoor
open Go.RowKit
open Go.Proofs.Qw
attribute [local go_sem] Oper.semAt_some
open _root_.Go.Lib renaming hid → zA
open _root_.Int renaming natCast_nonneg → zR
theorem zCo (B : Nat) (q k : Int) (l : List Int) (la : Option Addr) (lc : Nat) (cv : Value) (w : World) (S : Nat → Prop) (h : jJ false w S (.slice la l.length lc) l) (hB : w.heap[B]? = some (.cells #[.int .i64 q, .slice la l.length lc, .int .i64 k, cv] 60)) :
  Calls Tryz.prog 256 #[.pointer (some ⟨B, 0, none⟩)] w fun e w' => e = .returned (.int .i64 (xE l)) ∧ Below w.heap.size w w' ∧ w'.heap = w.heap := by
 obtain ⟨a, c, he, hc, hm, hx⟩ := zAH h;cases he;obtain ⟨p0, f0⟩ := blk hB;unfold maxLen at hm
 by_cases hn : l = []
 ·subst hn
  have HR : Hid (xE [] = -1) := zA rfl;clear h hx hB;go_enter Tryz.func256, Tryz.ntmps256;go_wp2_with fail;go_ret;rw [HR.out];exact ⟨rfl, Below.refl _ _, rfl⟩
 ·obtain ⟨n, hnl⟩ : ∃ n, l.length = n + 1 := ⟨l.length - 1, by have := List.length_pos_iff.2 hn; omega⟩
  obtain ⟨x, hx0, _⟩ := jP l n qD;obtain ⟨b, o, rfl, hz, c0⟩ := hx n x hx0
  have HR : Hid (xE l = x) := zA (by
   unfold xE;rw [List.getLastD_eq_getLast?, List.getLast?_eq_getElem?, hnl, Nat.add_sub_cancel, hx0]
   rfl)
  have hl0 : (((n + 1 : Nat) : Int) == 0) = false := by simp; omega
  have e1 : IntKind.i64.wrap (((n + 1 : Nat) : Int) - 1) = (n : Int) := by rw [show (((n + 1 : Nat) : Int) - 1) = (n : Int) by omega]; exact IntWalk.i64_in _ qD
  have i0 : (0 : Int) ≤ (n : Int) := zR _;have i1 : (n : Int) < ((n + 1 : Nat) : Int) := by omega
  rw [hnl] at p0 hc;clear h hx hB hx0 hnl hn;go_enter Tryz.func256, Tryz.ntmps256;go_wp2_with fail;go_quiet (fail);go_wp2_with fail;go_ret;rw [HR.out];exact ⟨rfl, by ((with_reducible repeat' first | exact Below.refl _ _ | assumption | refine Below.alloc ?_ ?_ _ | refine Below.drew ?_ | refine jQ ?_ | refine Below.setCell ?_ ?_ _) <;> go_size), rfl⟩
theorem zEZ (B : Nat) (q k : Int) (l : List Int) (la : Option Addr) (lc : Nat) (cv : Value) (w : World) (S : Nat → Prop) (h : jJ false w S (.slice la l.length lc) l) (hB : w.heap[B]? = some (.cells #[.int .i64 q, .slice la l.length lc, .int .i64 k, cv] 60)) (hne : l ≠ []) (hl : 0 ≤ xE l) :
  Calls Tryz.prog 231 #[.pointer (some ⟨B, 0, none⟩)] w fun e w' => e = .returned (.bool true) ∧ ∃ w1, w1.heap = w.heap ∧ Below w.heap.size w w1 ∧ w' = w1.setCell ⟨B, 1, none⟩ (.slice la (l.length - 1) (l.length - 1)) := by
 have HC := zA (zCo B q k l la lc cv w S h hB);obtain ⟨a, c, he, hc, hm, hx⟩ := zAH h;cases he;obtain ⟨n, hnl⟩ : ∃ n, l.length = n + 1 := ⟨l.length - 1, by have := List.length_pos_iff.2 hne; omega⟩;obtain ⟨x, hx0, _⟩ := jP l n qD;obtain ⟨b, o, rfl, hz, c0⟩ := hx n x hx0;obtain ⟨r, hr⟩ : ∃ r, xE l = r := ⟨_, rfl⟩;rw [hr] at HC hl;unfold maxLen at hm;have HN : Hid (l.length - 1 = n) := zA qD;have hr0 : ¬ r < 0 := by omega
 have HBB := zA hB;rw [HN.out];rw [hnl] at hc HBB;clear h hx hB hx0 hnl hne hr hl c0 hz HN;have n0 : (0 : Int) ≤ (n : Int) := zR _;have n1 : (n : Int) ≤ lc := by omega
 have n2 : n ≤ lc := by omega
 have n3 : ((n : Int)).toNat = n := Int.toNat_natCast _;go_enter Tryz.func231, Tryz.ntmps231;go_wp2_with (go_at_call 256; refine HC.out.mono ?_; rintro e w1 ⟨rfl, hb1, hh1⟩; have HW1 := zA (And.intro hb1 hh1); have HB1 : Hid (w1.heap[B]? = _) := zA (hh1 ▸ HBB.out); clear hb1 hh1; obtain ⟨p0, f0⟩ := blk HB1.out);go_ret;exact ⟨rfl, w1, HW1.out.2, HW1.out.1, rfl⟩
theorem zFn (B : Nat) (q k : Int) (l : List Int) (la : Option Addr) (lc : Nat) (cv : Value) (w : World) (S : Nat → Prop) (h : jJ false w S (.slice la l.length lc) l) (hB : w.heap[B]? = some (.cells #[.int .i64 q, .slice la l.length lc, .int .i64 k, cv] 60)) (hl : xE l < 0) :
  Calls Tryz.prog 231 #[.pointer (some ⟨B, 0, none⟩)] w fun e w' => e = .returned (.bool false) ∧ Below w.heap.size w w' ∧ w'.heap = w.heap := by
 have HC := zA (zCo B q k l la lc cv w S h hB);obtain ⟨r, hr⟩ : ∃ r, xE l = r := ⟨_, rfl⟩;rw [hr] at HC hl;clear h hB hr;go_enter Tryz.func231, Tryz.ntmps231;go_wp2_with (go_at_call 256; refine HC.out.mono ?_; rintro e w1 ⟨rfl, hb1, hh1⟩; have HW1 := zA (And.intro hb1 hh1); clear hb1 hh1);go_ret;exact ⟨rfl, HW1.out.1, HW1.out.2⟩
end Go.Proofs.YtcliojeoindceaaGreatDoor
namespace Go.Proofs.Qw
open Go.RowKit Go.Proofs.YtcliojeoindceaaGreatDoor
def kM (l : Lin) : Option Lin := if l.lists ≠ [] then some { l with lists := l.lists.dropLast } else if 0 < l.quote then some { l with quote := l.quote - 1 } else none
def vN (l : Lin) : Option Lin := if l.lists ≠ [] then some { l with lists := l.lists.dropLast } else if 0 < l.kind then some { l with kind := 0 } else if 0 < l.quote then some { l with quote := l.quote - 1 } else none
end Go.Proofs.Qw
namespace Go.Proofs.YtcliojeoindceaaGreatDoor
open Go.RowKit
open Go.Proofs.Qw
attribute [local go_sem] Oper.semAt_some
open _root_.Go.Lib renaming hid → zA
open _root_.And renaming intro → zB
open _root_.Nat renaming le_refl → zC
open _root_.Go.RowKit.Below renaming refl → zE, setCell → zF, alloc → zG, drew → zH
open _root_.Array renaming getElem?_eq_some_iff → zL
open _root_.Go renaming bodyPost_ret → zM
open _root_.Go.Proofs.Tryz renaming prog → zV
open _root_.Go.Proofs.Qw renaming jZ → qC
open _root_.Go.Proofs.Qw.SliceR renaming stable → qH
open _root_.Go.Proofs.Qw.Keeps renaming refl → qN, alloc → qO, drew → qP, set → qQ
open _root_.Go.Proofs.YtcliojeoindceaaGreatDoor renaming jO → qT
theorem zAV {l : Lin} (h : mayL l = true) : 0 ≤ l.quote ∧ l.quote ≤ 6 ∧ l.lists.length ≤ 6 ∧ 0 ≤ l.kind ∧ l.kind ≤ 3 ∧ (l.lists = [] ∨ l.kind = 0) ∧ (∀ k ∈ l.lists, k = 0 ∨ k = 1) ∧ kC l.cells = true := by
 unfold mayL at h;simp only [Bool.and_eq_true, Bool.or_eq_true, decide_eq_true_eq, List.all_eq_true] at h;obtain ⟨⟨⟨⟨⟨⟨⟨h1, h2⟩, h3⟩, h4⟩, h5⟩, h6⟩, h7⟩, h8⟩ := h;exact ⟨h1, h2, h3, h4, h5, h6, h7, h8⟩
theorem zCB {l : Lin} (h : mayL l = true) (hne : l.lists ≠ []) : 0 ≤ xE l.lists := by
 obtain ⟨_, _, _, _, _, _, h7, _⟩ := zAV h;unfold xE;rw [List.getLastD_eq_getLast?, List.getLast?_eq_some_getLast hne];rcases h7 _ (List.getLast_mem hne) with e | e <;> simp [e]
def TurnPost (B : Nat) (l : Lin) (la : Option Addr) (lc : Nat) (cv : Value) (w : World) (r : Option Lin) (e : Ending) (w' : World) : Prop :=
 e = .returned (.bool r.isSome) ∧ (∃ q k n c, w'.heap[B]? = some (.cells #[.int .i64 q, .slice la n c, .int .i64 k, cv] 60) ∧ ∀ l', r = some l' → l'.quote = q ∧ l'.kind = k ∧ l'.lists = l.lists.take n ∧ l'.cells = l.cells ∧ n ≤ l.lists.length ∧ n ≤ c ∧ c ≤ lc) ∧
  (∀ b, b < w.heap.size → b ≠ B → w'.heap[b]? = w.heap[b]?) ∧ w.heap.size ≤ w'.heap.size ∧ Below B w w'
theorem TurnPost.mk' {B : Nat} {l : Lin} {la : Option Addr} {lc : Nat} {cv : Value} {w w1 w' : World} {r : Option Lin} {e : Ending} (he : e = .returned (.bool r.isSome)) (hB : B < w.heap.size) (h1 : Below w.heap.size w w1) (ho : ∀ b, b ≠ B → w'.heap[b]? = w1.heap[b]?) (hs : w'.heap.size = w1.heap.size) (hb : Below B w1 w')
  (q k : Int) (n c : Nat) (hq : w'.heap[B]? = some (.cells #[.int .i64 q, .slice la n c, .int .i64 k, cv] 60)) (hl : ∀ l', r = some l' → l'.quote = q ∧ l'.kind = k ∧ l'.lists = l.lists.take n ∧ l'.cells = l.cells ∧ n ≤ l.lists.length ∧ n ≤ c ∧ c ≤ lc) : TurnPost B l la lc cv w r e w' :=
 ⟨he, ⟨q, k, n, c, hq, hl⟩, fun b hbz hne => (ho b hne).trans (h1.block b hbz), by rw [hs]; exact h1.size, (h1.mono (Nat.le_of_lt hB)).trans hb⟩
theorem zIx (B : Nat) (l : Lin) (la : Option Addr) (lc : Nat) (cv : Value) (w : World) (S : Nat → Prop) (hm : mayL l = true) (h : jJ false w S (.slice la l.lists.length lc) l.lists) (hB : w.heap[B]? = some (.cells #[.int .i64 l.quote, .slice la l.lists.length lc, .int .i64 l.kind, cv] 60)) :
  Calls zV 230 #[.pointer (some ⟨B, 0, none⟩)] w (TurnPost B l la lc cv w (kM l)) := by
 have hBz : B < w.heap.size := (zL.1 hB).1;obtain ⟨hq0, hq6, _⟩ := zAV hm;have hlen := h.len
 by_cases hn : l.lists = []
 ·have HL := zA (zFn B l.quote l.kind l.lists la lc cv w S h hB (by rw [hn]; decide))
  have HR : Hid (kM l = if 0 < l.quote then some { l with quote := l.quote - 1 } else none) := zA (by unfold kM; rw [if_neg (fun e => e hn)]);have HB := zA hB;have HN := zA hn;have HE := zA hlen;have w1 : IntKind.i64.wrap (l.quote - 1) = l.quote - 1 := IntWalk.i64_in _ qD;clear h hB hn hlen;go_enter Tryz.func230, Tryz.ntmps230;go_wp2_with (go_at_call 231; refine HL.out.mono ?_; rintro e w2 ⟨rfl, hb2, hh2⟩; have HW2 := zA (zB hb2 hh2); have HB2 : Hid (w2.heap[B]? = _) := zA (hh2 ▸ HB.out); clear hb2 hh2; obtain ⟨p0, f0⟩ := blk HB2.out);go_ret;rw [HR.out];refine TurnPost.mk' ?_ hBz HW2.out.1 (fun b hb => by simp [qT, Ne.symm hb]) qF (by exact zF (p := ⟨B, 0, none⟩) (zE B _) (zC B) _) (l.quote - 1) l.kind l.lists.length lc (by simp [qT, jA, HB2.out]) ?_
  ·split <;> simp <;> omega
  ·intro l' hl'
   split at hl'
   ·cases hl'
    exact ⟨rfl, rfl, by simp, rfl, zC _, HE.out.2.1, zC _⟩
   ·cases hl'
 ·have HL := zA (zEZ B l.quote l.kind l.lists la lc cv w S h hB hn (zCB hm hn))
  have HR : Hid (kM l = some { l with lists := l.lists.dropLast }) := zA (by unfold kM; rw [if_pos hn]);have HB := zA hB;have HE := zA hlen;clear h hB hn hlen;go_enter Tryz.func230, Tryz.ntmps230;go_wp2_with (go_at_call 231; refine HL.out.mono ?_; rintro e w2 ⟨rfl, w3, hh3, hb3, rfl⟩; have HW3 := zA (zB hb3 hh3); clear hb3 hh3);go_ret;rw [HR.out];refine TurnPost.mk' rfl hBz HW3.out.1 (fun b hb => by simp [qT, Ne.symm hb]) qF (by exact zF (p := ⟨B, 1, none⟩) (zE B _) (zC B) _) l.quote l.kind (l.lists.length - 1) (l.lists.length - 1) (by have := HW3.out.2 ▸ HB.out; simp [qT, jA, this]) ?_;intro l' hl';cases hl';exact ⟨rfl, rfl, by rw [List.dropLast_eq_take], rfl, by omega, zC _, by have := HE.out; omega⟩
theorem zLs (B : Nat) (l : Lin) (la : Option Addr) (lc : Nat) (cv : Value) (w : World) (S : Nat → Prop) (hm : mayL l = true) (h : jJ false w S (.slice la l.lists.length lc) l.lists) (hB : w.heap[B]? = some (.cells #[.int .i64 l.quote, .slice la l.lists.length lc, .int .i64 l.kind, cv] 60)) :
  Calls zV 234 #[.pointer (some ⟨B, 0, none⟩)] w (TurnPost B l la lc cv w (vN l)) := by
 have hBz : B < w.heap.size := (zL.1 hB).1;obtain ⟨hq0, hq6, _, hk0, hk3, _⟩ := zAV hm;have hlen := h.len
 by_cases hn : l.lists = []
 ·have HL := zA (zFn B l.quote l.kind l.lists la lc cv w S h hB (by rw [hn]; decide))
  have HR : Hid (vN l = if 0 < l.kind then some { l with kind := 0 } else if 0 < l.quote then some { l with quote := l.quote - 1 } else none) := zA (by unfold vN; rw [if_neg (fun e => e hn)]);have HB := zA hB;have HN := zA hn;have HE := zA hlen;have w1 : IntKind.i64.wrap (l.quote - 1) = l.quote - 1 := IntWalk.i64_in _ qD;clear h hB hn hlen;rcases (show (0 < l.kind) ∨ (¬ 0 < l.kind ∧ 0 < l.quote) ∨ (¬ 0 < l.kind ∧ ¬ 0 < l.quote) by omega) with hk | ⟨hk, hq⟩ | ⟨hk, hq⟩
  ·rw [if_pos hk] at HR
   go_enter Tryz.func234, Tryz.ntmps234;go_wp2_with (go_at_call 231; refine HL.out.mono ?_; rintro e w2 ⟨rfl, hb2, hh2⟩; have HW2 := zA (zB hb2 hh2); have HB2 : Hid (w2.heap[B]? = _) := zA (hh2 ▸ HB.out); clear hb2 hh2; obtain ⟨p0, f0⟩ := blk HB2.out);go_ret;rw [HR.out];refine TurnPost.mk' rfl hBz HW2.out.1 (fun b hb => by simp [qT, Ne.symm hb]) qF (by exact zF (p := ⟨B, 2, none⟩) (zE B _) (zC B) _) l.quote 0 l.lists.length lc (by simp [qT, jA, HB2.out]) ?_;intro l' hl';cases hl';exact ⟨rfl, rfl, by simp, rfl, zC _, HE.out.2.1, zC _⟩
  ·rw [if_neg hk, if_pos hq] at HR
   go_enter Tryz.func234, Tryz.ntmps234;go_wp2_with (go_at_call 231; refine HL.out.mono ?_; rintro e w2 ⟨rfl, hb2, hh2⟩; have HW2 := zA (zB hb2 hh2); have HB2 : Hid (w2.heap[B]? = _) := zA (hh2 ▸ HB.out); clear hb2 hh2; obtain ⟨p0, f0⟩ := blk HB2.out);go_ret;rw [HR.out];refine TurnPost.mk' rfl hBz HW2.out.1 (fun b hb => by simp [qT, Ne.symm hb]) qF (by exact zF (p := ⟨B, 0, none⟩) (zE B _) (zC B) _) (l.quote - 1) l.kind l.lists.length lc (by simp [qT, jA, HB2.out]) ?_;intro l' hl';cases hl';exact ⟨rfl, rfl, by simp, rfl, zC _, HE.out.2.1, zC _⟩
  ·rw [if_neg hk, if_neg hq] at HR
   go_enter Tryz.func234, Tryz.ntmps234;go_wp2_with (go_at_call 231; refine HL.out.mono ?_; rintro e w2 ⟨rfl, hb2, hh2⟩; have HW2 := zA (zB hb2 hh2); have HB2 : Hid (w2.heap[B]? = _) := zA (hh2 ▸ HB.out); clear hb2 hh2; obtain ⟨p0, f0⟩ := blk HB2.out);go_ret;rw [HR.out];refine TurnPost.mk' rfl hBz HW2.out.1 (fun b _ => rfl) rfl (zE _ _) l.quote l.kind l.lists.length lc HB2.out ?_;intro l' hl';cases hl'
 ·have HL := zA (zEZ B l.quote l.kind l.lists la lc cv w S h hB hn (zCB hm hn))
  have HR : Hid (vN l = some { l with lists := l.lists.dropLast }) := zA (by unfold vN; rw [if_pos hn]);have HB := zA hB;have HE := zA hlen;clear h hB hn hlen;go_enter Tryz.func234, Tryz.ntmps234;go_wp2_with (go_at_call 231; refine HL.out.mono ?_; rintro e w2 ⟨rfl, w3, hh3, hb3, rfl⟩; have HW3 := zA (zB hb3 hh3); clear hb3 hh3);go_ret;rw [HR.out];refine TurnPost.mk' rfl hBz HW3.out.1 (fun b hb => by simp [qT, Ne.symm hb]) qF (by exact zF (p := ⟨B, 1, none⟩) (zE B _) (zC B) _) l.quote l.kind (l.lists.length - 1) (l.lists.length - 1) (by have := HW3.out.2 ▸ HB.out; simp [qT, jA, this]) ?_;intro l' hl';cases hl';exact ⟨rfl, rfl, by rw [List.dropLast_eq_take], rfl, by omega, zC _, by have := HE.out; omega⟩
theorem xO {fn : Func} {p u : Tmp} (h : fn.results = #[.cell p 60, .tmp u]) (tmps : Array Value) (w : World) (B : Nat) (x1 x2 x3 x4 : Value) (hp : tmps.getD p undef = .pointer (some ⟨B, 0, none⟩))
  (hB : w.heap[B]? = some (.cells #[x1, x2, x3, x4] 60)) :
  (results fn tmps).run zV w = .ok (.tuple #[.agg #[x1, x2, x3, x4], tmps.getD u undef]) w := by
 have h1 := run_loadVar_row (P := zV) w B 60 60 _ _ _ hB Tryz.underlying60 rfl zT;have hp' : tmps[p]?.getD undef = .pointer (some ⟨B, 0, none⟩) := by simpa using hp
 simp [results, h, hp', asAddr, h1]
def vR (w : World) (r : Option Lin) (e : Ending) (w' : World) : Prop :=
 (∀ l', r = some l' → ∃ a' b', e = .returned (.tuple #[linV l' a' b', .int .i64 0]) ∧ jJ true w' (fun b => w.heap.size ≤ b) a' l'.lists ∧ jE true w' (fun b => w.heap.size ≤ b) b' l'.cells) ∧
  (r = none → e = .returned (.tuple #[.agg #[.int .i64 0, .slice none 0 0, .int .i64 0, .slice none 0 0], .int .i64 7])) ∧ Below w.heap.size w w'
set_option maxRecDepth 100000 in
theorem zFy (g : Nat) (T : Lin → Option Lin) (eg : ∀ args w, (callFunc g args).run zV w = .ok (.enter g args) w)
  (HT : ∀ (B : Nat) (l : Lin) (la : Option Addr) (lc : Nat) (cv : Value) (w : World) (S : Nat → Prop), mayL l = true → jJ false w S (.slice la l.lists.length lc) l.lists → w.heap[B]? = some (.cells #[.int .i64 l.quote, .slice la l.lists.length lc, .int .i64 l.kind, cv] 60) →
   Calls zV g #[.pointer (some ⟨B, 0, none⟩)] w (TurnPost B l la lc cv w (T l)))
  (l : Lin) (la ca : Option Addr) (lc cc : Nat) (w w0 : World) (S : Nat → Prop) (hL : jJ false w0 S (.slice la l.lists.length lc) l.lists) (hC : jE false w0 S (.slice ca l.cells.length cc) l.cells) (h0 : Below w0.heap.size w0 w)
  (he : EnvT w) (hs : l.lists.length ≤ 1000000 ∧ l.cells.length ≤ 1000000) (hh : ∀ c ∈ l.cells, c.href.length ≤ 1000000) (hm : mayL l = true) :
  Calls zV 229 #[linV l (.slice la l.lists.length lc) (.slice ca l.cells.length cc), .func (.func g) #[] #[]] w (vR w (T l)) := by
 obtain ⟨W1, hW1, hB, hz, hA1, hA2⟩ := zAo w (.int .i64 l.quote) (.slice la l.lists.length lc) (.int .i64 l.kind) (.slice ca l.cells.length cc) (.int .i64 0) (.slice none 0 0) (.int .i64 0) (.slice none 0 0);have h01 : Below w0.heap.size w0 W1 := jG h0 hB;have HM := zA (zCt l la ca lc cc W1 w0 S hL hC (he.below hB) h01 hh);rw [hm] at HM;have HO : Hid (∀ W, Below w0.heap.size w0 W → Calls zV 134 #[linV l (.slice la l.lists.length lc) (.slice ca l.cells.length cc)] W fun e w' => ∃ a' b', e = .returned (linV l a' b') ∧ jJ true w' (fun b => W.heap.size ≤ b) a' l.lists ∧ jE true w' (fun b => W.heap.size ≤ b) b' l.cells ∧ Below W.heap.size W w') := zA fun W hW => zBF l _ _ false false W w0 S hL hC hW hs;have HG : Hid (∀ (B : Nat) (la : Option Addr) (lc : Nat) (cv : Value) (w : World) (S : Nat → Prop), jJ false w S (.slice la l.lists.length lc) l.lists → w.heap[B]? = some (.cells #[.int .i64 l.quote, .slice la l.lists.length lc, .int .i64 l.kind, cv] 60) → Calls zV g #[.pointer (some ⟨B, 0, none⟩)] w (TurnPost B l la lc cv w (T l))) := zA fun B la lc cv w S h1 h2 => HT B l la lc cv w S hm h1 h2;have hs1 := hB.size;have HB0 : Hid (∀ W, Below W1.heap.size W1 W → W.heap[w.heap.size]? = some (.cells #[.int .i64 l.quote, .slice la l.lists.length lc, .int .i64 l.kind, .slice ca l.cells.length cc] 60) ∧ W.heap[w.heap.size + 1]? = some (.cells #[.int .i64 0, .slice none 0 0, .int .i64 0, .slice none 0 0] 60)) := zA fun W hW => ⟨jI hW hA1, jI hW hA2⟩;have H1 := zA hB;have H01 := zA h01;obtain ⟨p1, f1⟩ := blk hA1;obtain ⟨p2, f2⟩ := blk hA2;obtain ⟨r, hr⟩ : ∃ r, T l = r := ⟨_, rfl⟩;rw [hr] at HG ⊢;clear hL hC hs hB h0 HT hr hm he h01;unfold linV at HO ⊢;go_enter Tryz.func229, Tryz.ntmps229;go_wp2_with (first | (go_at_call 131; refine HM.out.mono ?_; rintro e w2 ⟨rfl, hb2⟩; obtain ⟨hA3, hA4⟩ := HB0.out _ hb2; obtain ⟨q0, g0⟩ := blk hA3; obtain ⟨q1, g1⟩ := blk hA4) | (go_at_call 134; refine (HO.out _ (jG H01.out hb2)).mono ?_; rintro e w3 ⟨a', b', rfl, ha', hb', hb3⟩; obtain ⟨a1, c1, rfl⟩ := ha'.slice; obtain ⟨a2, c2, rfl⟩ := hb'.slice; obtain ⟨hA5, hA6⟩ := HB0.out _ (jG hb2 hb3); obtain ⟨p3, f3⟩ := blk hA5; obtain ⟨p4, f4⟩ := blk hA6));obtain ⟨Y, hY, hYB, hYs, hYo, hYb⟩ := kA w3 w.heap.size 60 _ _ _ _ (.int .i64 l.quote) (.slice a1 l.lists.length c1) (.int .i64 l.kind) (.slice a2 l.cells.length c2) hA5;have hx2 := jG H1.out hb2;have hx3 : Below w.heap.size w w3 := jG hx2 hb3;have hn3 : w.heap.size + 2 ≤ w2.heap.size := by have := hb2.size; omega
 have hle3 := hb3.size;have hiY : jJ true Y (fun b => w2.heap.size ≤ b) (.slice a1 l.lists.length c1) l.lists := qH (qC _) ha' (Keeps.only hYs hYo jB) (fun b h _ => h);have hcY : jE true Y (fun b => w2.heap.size ≤ b) (.slice a2 l.cells.length c2) l.cells := qH (qC _) hb' (Keeps.only hYs hYo jB) (fun b h _ => h);have hcl := hiY.len;rw [hY];have hA7 : Y.heap[w.heap.size + 1]? = some (.cells #[.int .i64 0, .slice none 0 0, .int .i64 0, .slice none 0 0] 60) := (hYo _ qD).trans hA6;refine (HG.out w.heap.size a1 c1 (.slice a2 l.cells.length c2) Y (fun b => w2.heap.size ≤ b) (SliceR.read (fun _ _ h => h) hiY) hYB).mono ?_;rintro e w4 ⟨rfl, ⟨q, k, n, c, h4, hl4⟩, ho4, hz4, hb4⟩;have hA8 := (ho4 (w.heap.size + 1) qD qD).trans hA7;have hi4 : jJ true w4 (fun b => w2.heap.size ≤ b) (.slice a1 l.lists.length c1) l.lists := qH (qC _) hiY ⟨hz4, fun b hb hz => ho4 b hz qD⟩ (fun b h _ => h);have hc4 : jE true w4 (fun b => w2.heap.size ≤ b) (.slice a2 l.cells.length c2) l.cells := qH (qC _) hcY ⟨hz4, fun b hb hz => ho4 b hz qD⟩ (fun b h _ => h);have hx4 : Below w.heap.size w w4 := (hYb _ (zC _) w hx3).trans hb4;have HI := zA hi4;have HCC := zA hc4;have HX4 := zA hx4;clear hi4 hc4 hx4 hiY hcY hYB hYo hYb ha' hb' ho4 hb4 HG HO HM hx2 hx3;obtain ⟨p5, f5⟩ := blk h4;obtain ⟨p6, f6⟩ := blk hA8;clear p1 f1 p2 f2 q0 g0 q1 g1 p3 f3 p4 f4 hY;cases r with
 | none =>
  go_wp2_with fail;refine zM (xO rfl _ _ (w.heap.size + 1) (.int .i64 0) (.slice none 0 0) (.int .i64 0) (.slice none 0 0) rfl (by simp [qT, jA, hA8])) rfl ?_;refine ⟨fun l' h => kY, fun _ => rfl, ?_⟩;have := HX4.out
  ((with_reducible repeat' first | exact zE _ _ | assumption | refine zG ?_ ?_ _ | refine zH ?_ | refine jQ ?_ | refine zF ?_ ?_ _) <;> go_size)
 | some l' =>
  obtain ⟨rfl, rfl, e3, e4, e5, e6, e7⟩ := hl4 l' rfl;have HE := zA (zB e3 e4);clear hl4 e3 e4;go_wp2_with fail;refine zM (xO rfl _ _ (w.heap.size + 1) (.int .i64 l'.quote) (.slice a1 n c) (.int .i64 l'.kind) (.slice a2 l.cells.length c2) rfl (by simp [qT, jA, hA8])) rfl ?_;refine ⟨fun l'' h => ?_, fun h => kY, ?_⟩
  ·cases h
   refine ⟨_, _, rfl, ?_, ?_⟩
   ·rw [HE.out.1]
    have hh := SliceR.caps (HI.out.take e5) (m := c) zAi e7;exact (qH (qC _) hh jN (fun b h _ => jL))
   ·rw [HE.out.2]
    have hh := HCC.out;exact (qH (qC _) hh jN (fun b h _ => jL))
  ·have := HX4.out
   ((with_reducible repeat' first | exact zE _ _ | assumption | refine zG ?_ ?_ _ | refine zH ?_ | refine jQ ?_ | refine zF ?_ ?_ _) <;> go_size)
theorem zDf (l : Lin) (la ca : Option Addr) (lc cc : Nat) (w w0 : World) (S : Nat → Prop) (hL : jJ false w0 S (.slice la l.lists.length lc) l.lists) (hC : jE false w0 S (.slice ca l.cells.length cc) l.cells) (h0 : Below w0.heap.size w0 w)
  (he : EnvT w) (hs : l.lists.length ≤ 1000000 ∧ l.cells.length ≤ 1000000) (hh : ∀ c ∈ l.cells, c.href.length ≤ 1000000) (hm : mayL l = true) :
  Calls zV 147 #[linV l (.slice la l.lists.length lc) (.slice ca l.cells.length cc)] w (vR w (kM l)) := by
 obtain ⟨W1, hW1, hB, hz, hA1, hA2⟩ := zAo w (.int .i64 l.quote) (.slice la l.lists.length lc) (.int .i64 l.kind) (.slice ca l.cells.length cc) (.int .i64 0) (.slice none 0 0) (.int .i64 0) (.slice none 0 0);have HT := zA (zFy 230 kM (enters_of Tryz.func230 zT rfl) zIx l la ca lc cc W1 w0 S hL hC (jG h0 hB) (he.below hB) hs hh hm);have hs1 := hB.size;have HB0 : Hid (∀ W, Below W1.heap.size W1 W → W.heap[w.heap.size]? = some (.cells #[.int .i64 l.quote, .slice la l.lists.length lc, .int .i64 l.kind, .slice ca l.cells.length cc] 60) ∧ W.heap[w.heap.size + 1]? = some (.cells #[.int .i64 0, .slice none 0 0, .int .i64 0, .slice none 0 0] 60)) := zA fun W hW => ⟨jI hW hA1, jI hW hA2⟩;have H1 := zA hB;obtain ⟨p1, f1⟩ := blk hA1;obtain ⟨p2, f2⟩ := blk hA2;obtain ⟨r, hr⟩ : ∃ r, kM l = r := ⟨_, rfl⟩;rw [hr] at HT ⊢;clear hL hC hs hB h0 hr hm he;unfold linV at HT ⊢;cases r with
 | none =>
  go_enter Tryz.func147, Tryz.ntmps147;go_wp2_with (go_at_call 229; refine HT.out.mono ?_; rintro e w2 ⟨_, he2, hb2⟩; obtain rfl := he2 rfl; obtain ⟨hA3, hA4⟩ := HB0.out _ hb2; obtain ⟨q0, g0⟩ := blk hA3; obtain ⟨q1, g1⟩ := blk hA4);refine zM (xO rfl _ _ (w.heap.size + 1) (.int .i64 0) (.slice none 0 0) (.int .i64 0) (.slice none 0 0) rfl yT) rfl ?_;refine ⟨fun l' h => kY, fun _ => rfl, ?_⟩;have := H1.out.trans (hb2.mono hs1)
  ((with_reducible repeat' first | exact zE _ _ | assumption | refine zG ?_ ?_ _ | refine zH ?_ | refine jQ ?_ | refine zF ?_ ?_ _) <;> go_size)
 | some l' =>
  go_enter Tryz.func147, Tryz.ntmps147;go_wp2_with (go_at_call 229; refine HT.out.mono ?_; rintro e w2 ⟨he2, _, hb2⟩; obtain ⟨a', b', rfl, ha', hb'⟩ := he2 _ rfl; obtain ⟨a1, c1, rfl⟩ := ha'.slice; obtain ⟨a2, c2, rfl⟩ := hb'.slice; obtain ⟨hA3, hA4⟩ := HB0.out _ hb2; obtain ⟨q0, g0⟩ := blk hA3; obtain ⟨q1, g1⟩ := blk hA4);refine zM (xO rfl _ _ (w.heap.size + 1) (.int .i64 l'.quote) (.slice a1 l'.lists.length c1) (.int .i64 l'.kind) (.slice a2 l'.cells.length c2) rfl yT) rfl ?_;refine ⟨fun l'' h => ?_, fun h => kY, ?_⟩
  ·cases h
   exact ⟨_, _, rfl, (qH (qC _) ha' jN (fun b h _ => jL)), (qH (qC _) hb' jN (fun b h _ => jL))⟩
  ·have := H1.out.trans (hb2.mono hs1)
   ((with_reducible repeat' first | exact zE _ _ | assumption | refine zG ?_ ?_ _ | refine zH ?_ | refine jQ ?_ | refine zF ?_ ?_ _) <;> go_size)
theorem zIA (l : Lin) (la ca : Option Addr) (lc cc : Nat) (w w0 : World) (S : Nat → Prop) (hL : jJ false w0 S (.slice la l.lists.length lc) l.lists) (hC : jE false w0 S (.slice ca l.cells.length cc) l.cells) (h0 : Below w0.heap.size w0 w)
  (he : EnvT w) (hs : l.lists.length ≤ 1000000 ∧ l.cells.length ≤ 1000000) (hh : ∀ c ∈ l.cells, c.href.length ≤ 1000000) (hm : mayL l = true) :
  Calls zV 150 #[linV l (.slice la l.lists.length lc) (.slice ca l.cells.length cc)] w (vR w (vN l)) := by
 obtain ⟨W1, hW1, hB, hz, hA1, hA2⟩ := zAo w (.int .i64 l.quote) (.slice la l.lists.length lc) (.int .i64 l.kind) (.slice ca l.cells.length cc) (.int .i64 0) (.slice none 0 0) (.int .i64 0) (.slice none 0 0);have HT := zA (zFy 234 vN (enters_of Tryz.func234 zT rfl) zLs l la ca lc cc W1 w0 S hL hC (jG h0 hB) (he.below hB) hs hh hm);have hs1 := hB.size;have HB0 : Hid (∀ W, Below W1.heap.size W1 W → W.heap[w.heap.size]? = some (.cells #[.int .i64 l.quote, .slice la l.lists.length lc, .int .i64 l.kind, .slice ca l.cells.length cc] 60) ∧ W.heap[w.heap.size + 1]? = some (.cells #[.int .i64 0, .slice none 0 0, .int .i64 0, .slice none 0 0] 60)) := zA fun W hW => ⟨jI hW hA1, jI hW hA2⟩;have H1 := zA hB;obtain ⟨p1, f1⟩ := blk hA1;obtain ⟨p2, f2⟩ := blk hA2;obtain ⟨r, hr⟩ : ∃ r, vN l = r := ⟨_, rfl⟩;rw [hr] at HT ⊢;clear hL hC hs hB h0 hr hm he;unfold linV at HT ⊢;cases r with
 | none =>
  go_enter Tryz.func150, Tryz.ntmps150;go_wp2_with (go_at_call 229; refine HT.out.mono ?_; rintro e w2 ⟨_, he2, hb2⟩; obtain rfl := he2 rfl; obtain ⟨hA3, hA4⟩ := HB0.out _ hb2; obtain ⟨q0, g0⟩ := blk hA3; obtain ⟨q1, g1⟩ := blk hA4);refine zM (xO rfl _ _ (w.heap.size + 1) (.int .i64 0) (.slice none 0 0) (.int .i64 0) (.slice none 0 0) rfl yT) rfl ?_;refine ⟨fun l' h => kY, fun _ => rfl, ?_⟩;have := H1.out.trans (hb2.mono hs1)
  ((with_reducible repeat' first | exact zE _ _ | assumption | refine zG ?_ ?_ _ | refine zH ?_ | refine jQ ?_ | refine zF ?_ ?_ _) <;> go_size)
 | some l' =>
  go_enter Tryz.func150, Tryz.ntmps150;go_wp2_with (go_at_call 229; refine HT.out.mono ?_; rintro e w2 ⟨he2, _, hb2⟩; obtain ⟨a', b', rfl, ha', hb'⟩ := he2 _ rfl; obtain ⟨a1, c1, rfl⟩ := ha'.slice; obtain ⟨a2, c2, rfl⟩ := hb'.slice; obtain ⟨hA3, hA4⟩ := HB0.out _ hb2; obtain ⟨q0, g0⟩ := blk hA3; obtain ⟨q1, g1⟩ := blk hA4);refine zM (xO rfl _ _ (w.heap.size + 1) (.int .i64 l'.quote) (.slice a1 l'.lists.length c1) (.int .i64 l'.kind) (.slice a2 l'.cells.length c2) rfl yT) rfl ?_;refine ⟨fun l'' h => ?_, fun h => kY, ?_⟩
  ·cases h
   exact ⟨_, _, rfl, (qH (qC _) ha' jN (fun b h _ => jL)), (qH (qC _) hb' jN (fun b h _ => jL))⟩
  ·have := H1.out.trans (hb2.mono hs1)
   ((with_reducible repeat' first | exact zE _ _ | assumption | refine zG ?_ ?_ _ | refine zH ?_ | refine jQ ?_ | refine zF ?_ ?_ _) <;> go_size)
end Go.Proofs.YtcliojeoindceaaGreatDoor
namespace Go.Proofs.Qw
open Go.RowKit Go.Proofs.YtcliojeoindceaaGreatDoor
theorem zIK (s : ByteArray) (pos : Nat) : Lib.validRune ((Utf8.decode s pos).1 : Int) = true := by
 rw [← Lib.decodeL_drop];exact Lib.rune_valid _
theorem zEK (s : ByteArray) : ∀ (f pos : Nat), ∀ c ∈ xJ s f pos, Lib.validRune c = true
 | 0, _, c, h => by simp [xJ] at h
 | f + 1, pos, c, h => by
  unfold xJ at h
  split at h
  ·rcases List.mem_cons.1 h with rfl | h
   ·exact zIK s pos
   ·exact zEK s f _ c h
  ·cases h
theorem zIM {c : Int} (h : Lib.validRune c = true) : vL c ≠ 0 := by
 unfold vL;rw [h, if_neg qW]
 (repeat' split) <;> decide
theorem zIN (t : ByteArray) : ∀ c ∈ vH t, vL c ≠ 0 := fun c h => zIM (zEK t _ _ c h)
theorem zLG (c : Int) : 0 ≤ vL c := by
 unfold vL
 (repeat' split) <;> decide
theorem zLH : vL 32 = 2 := by decide
def zBX (c : Int) : Option Int := if c = 9 ∨ c = 12 ∨ c = 13 then some 32 else if c = 10 then some 10 else if vL c = 1 then none else some c
def xV (t : ByteArray) : List Int := (vH t).filterMap zBX
def cellsOf (l : List Int) (b : Int) (h : List UInt8) : List Cel := l.map fun c => ⟨c, b, h⟩
end Go.Proofs.Qw
