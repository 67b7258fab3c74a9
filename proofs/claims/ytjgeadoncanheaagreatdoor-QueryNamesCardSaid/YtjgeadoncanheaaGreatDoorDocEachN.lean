/- Parts of the proof. -/
import Derived.Test.YtjgeadoncanheaaGreatDoorAttrWalkN
import Derived.Test.YtjgeadoncanheaaGreatDoorDocDeleteN
import Derived.Shelf.AbstractIn
import Derived.Test.YtjgeadoncanheaaGreatDoorLaidN
import Derived.Deep.RegionHeld3
import Derived.StillTailTactics
import Derived.Deep.DrawnRows
set_option linter.unusedVariables false
set_option linter.unusedSimpArgs false
set_option maxHeartbeats 8000000
namespace Go.Proofs.Qw
open Go.RowKit Go.Proofs.YtjgeadoncanheaaGreatDoor
def rowB (d : Doc) (i p j q k : Nat) : Nat × Nat × Nat := (k, if k = i then p else 0, if k = j then q else (d.getD k default).cells.length)
def kI (d : Doc) (i p j q k : Nat) : List (Nat × Nat × Nat) := (List.range (k - i)).map fun n => rowB d i p j q (i + n)
def zAs (d : Doc) (x : Nat × Nat × Nat) : Prop := ∃ l, d[x.1]? = some l ∧ x.2.1 ≤ x.2.2 ∧ x.2.2 ≤ l.cells.length
abbrev RowX (d : Doc) := { x : Nat × Nat × Nat // zAs d x }
abbrev uH {d : Doc} (x : RowX d) : Array Value := #[.int .i64 x.1.1, .agg #[.int .i64 x.1.2.1, .int .i64 x.1.2.2]]
theorem zCM (d : Doc) (i p j q : Nat) : kI d i p j q i = [] := by simp [kI]
theorem zCI (d : Doc) {i p j q k : Nat} (h : i ≤ k) : kI d i p j q (k + 1) = kI d i p j q k ++ [rowB d i p j q k] := by
 unfold kI;rw [show k + 1 - i = (k - i) + 1 by omega, List.range_succ, List.map_append]
 congr 1
 rw [List.map_singleton, show i + (k - i) = k by omega]
theorem zDb (d : Doc) {i p j q k : Nat} {l : Lin} (hl : d[k]? = some l) : rowB d i p j q k = (k, if k = i then p else 0, if k = j then q else l.cells.length) := by
 unfold rowB; simp [List.getD, hl]
theorem zDj {d : Doc} {i p j q k : Nat} {l m : Lin} (hl : d[i]? = some l) (hm : d[j]? = some m) (hp : p ≤ l.cells.length) (hq : q ≤ m.cells.length) (hpq : i = j → p ≤ q) (hk1 : i ≤ k) (hk2 : k ≤ j) : zAs d (rowB d i p j q k) := by
 obtain ⟨x, hx, _⟩ := jO d k (by have := (List.getElem?_eq_some_iff.1 hm).1; omega);refine ⟨x, by simpa [rowB] using hx, ?_⟩;rw [zDb d hx];dsimp only
 by_cases h1 : k = i
 ·subst h1
  rw [hl] at hx;cases hx
  by_cases h2 : k = j
  ·subst h2
   rw [hl] at hm;cases hm;simp only [if_pos];exact ⟨hpq rfl, hq⟩
  ·simp only [if_pos, if_neg h2]
   exact ⟨hp, Nat.le_refl _⟩
 ·by_cases h2 : k = j
  ·subst h2
   rw [hm] at hx;cases hx;simp only [if_pos, if_neg h1];exact ⟨Nat.zero_le _, hq⟩
  ·simp only [if_neg h1, if_neg h2]
   exact ⟨Nat.zero_le _, Nat.le_refl _⟩
end Go.Proofs.Qw
namespace Go.Proofs.YtjgeadoncanheaaGreatDoor
open Go.RowKit
open Go.Proofs.Qw
open _root_.Go.Lib renaming hid → zA
open _root_.Go renaming bodyPost_ret → zM
theorem zCK (va : Option Addr) (vn vc : Nat) (a1 a2 b1 b2 : Int) (w : World) :
  Calls Tryz.prog 155 #[.slice va vn vc, .agg #[.int .i64 a1, .int .i64 a2], .agg #[.int .i64 b1, .int .i64 b2]] w fun e w' => e = .returned (.func (.func 209) #[] #[.pointer (some ⟨w.heap.size + 1, 0, none⟩), .pointer (some ⟨w.heap.size + 2, 0, none⟩), .pointer (some ⟨w.heap.size, 0, none⟩)]) ∧
   w' = ((w.alloc (.cells #[.slice va vn vc] 22)).alloc (.cells #[.int .i64 a1, .int .i64 a2] 24)).alloc (.cells #[.int .i64 b1, .int .i64 b2] 24) := by
 go_enter Tryz.func155, Tryz.ntmps155;go_wp2_with fail;go_ret;exact ⟨rfl, rfl⟩
attribute [local go_sem] Oper.semAt_some
set_option maxRecDepth 200000 in
theorem zEr (n l Bd Ba Bb base : Nat) (v : Value) (d : Doc) (i p j q : Nat) (S : Nat → Prop) (J Jx : List (RowX d) → World → Prop) (w0 W : World) (hv : jE w0 S v d) (hb0 : Below w0.heap.size w0 W)
  (hbase : base ≤ Bd ∧ base ≤ Ba ∧ base ≤ Bb) (hD : W.heap[Bd]? = some (.cells #[v] 22)) (hA : W.heap[Ba]? = some (.cells #[.int .i64 i, .int .i64 p] 24)) (hB : W.heap[Bb]? = some (.cells #[.int .i64 j, .int .i64 q] 24))
  (hij : i ≤ j) (hj : j < d.length) (hok : ∀ k, i ≤ k → k ≤ j → zAs d (rowB d i p j q k)) (hlen : d.length ≤ 100000) (hJ : AbidesFrom W.heap.size J)
  (hY : ∀ (pre : List (RowX d)) (x : RowX d) W, J pre W → pre.length < 200000 → YieldAt Fence.wide (n - 1) Tryz.prog l (uH x) W fun e W' =>
   (e = .returned (.bool true) ∧ J (pre ++ [x]) W' ∧ Kp w0.heap.size base W W') ∨ (e = .returned (.bool false) ∧ Jx (pre ++ [x]) W'))
  (h0 : J [] W) :
  CallsIn Fence.wide n Tryz.prog 209 #[.func (.yield l) #[] #[], .pointer (some ⟨Ba, 0, none⟩), .pointer (some ⟨Bb, 0, none⟩), .pointer (some ⟨Bd, 0, none⟩)] W fun e W' => (∃ v, e = .returned v) ∧
   ((∃ ys : List (RowX d), ys.map (·.1) = kI d i p j q (j + 1) ∧ J ys W') ∨ (∃ pre, True ∧ Jx pre W')) := by
 refine callsIn_of_wp Tryz.func209 rfl trivial ?_ rfl;simp only [Tryz.ntmps209, List.size_toArray, List.length_cons, List.length_nil, Nat.reduceAdd, Nat.reduceSub, Array.replicate_succ, Array.replicate_zero, List.push_toArray, List.append_toArray, List.nil_append, List.cons_append];have hwf : ∀ f, Fence.wide.fn f := fun _ => trivial;have hwd : Fence.wide.depth = none := rfl;obtain ⟨va, vc, rfl, hvc, hvm, hx⟩ := kP hv;have HX := zA hx;have HY := zA hY;have HOK := zA hok;have HJA := zA hJ;have HBK := zA (And.intro hD (And.intro hA hB));obtain ⟨p1, f1⟩ := blk hD;obtain ⟨p2, f2⟩ := blk hA;obtain ⟨p3, f3⟩ := blk hB;unfold maxLen at hvm;clear hx hv hY hok hJ hD hA hB
 gi_wp2_with fail
 clear p1 f1 p2 f2 p3 f3
 gi_loopw [5, 6, 7] (fun z _ _ wr => ∃ (k : Nat) (pre : List (RowX d)), i ≤ k ∧ k ≤ j + 1 ∧ pre.length ≤ k ∧ z = .int .i64 k ∧ Hid (pre.map (·.1) = kI d i p j q k) ∧ J pre wr ∧ Below w0.heap.size w0 wr ∧ Hid (wr.heap[Bd]? = some (.cells #[.slice va d.length vc] 22) ∧ wr.heap[Ba]? = some (.cells #[.int .i64 i, .int .i64 p] 24) ∧ wr.heap[Bb]? = some (.cells #[.int .i64 j, .int .i64 q] 24)) ∧ W.heap.size ≤ wr.heap.size)
  (fun z _ _ _ => j + 1 - (intOf z).toNat)
 case atStart => exact ⟨i, [], Nat.le_refl _, by omega, Nat.zero_le _, rfl, zA (zCM ..).symm, h0, hb0, HBK, Nat.le_refl _⟩
 case round =>
  obtain ⟨k, pre, hk1, hk2, hpl, rfl, HP, hJs, hb1, HBL, hz1⟩ := hrel;obtain ⟨p1, f1⟩ := blk HBL.out.1;obtain ⟨p2, f2⟩ := blk HBL.out.2.1;obtain ⟨p3, f3⟩ := blk HBL.out.2.2
  by_cases hlt : k ≤ j
  ·obtain ⟨l0, hl0, _⟩ := jO d k qC
   obtain ⟨b, o, la, lc, ca, cc, rfl, hAk⟩ := HX.out k l0 hl0;obtain ⟨_, c0, c1, c2, c3, _, _⟩ := hAk.below hb1;have HL0 := zA (zDb d (i := i) (p := p) (j := j) (q := q) hl0);have hd1 : Below wr.heap.size wr wr.drew := (Below.refl _ _).drew;have HD1 := zA hd1;have HJ1 := zA (zAv (X := wr) (Y := wr.drew) HJA.out hJs hd1);have i0 : (0 : Int) ≤ (k : Int) := Int.natCast_nonneg _;have i1 : (k : Int) < (d.length : Int) := by omega
   have hNext : ∀ w7, J (pre ++ [⟨rowB d i p j q k, HOK.out k hk1 hlt⟩]) w7 → Kp w0.heap.size base wr.drew w7 → ∃ (k' : Nat) (pre : List (RowX d)), i ≤ k' ∧ k' ≤ j + 1 ∧ pre.length ≤ k' ∧ k' = k + 1 ∧ Hid (pre.map (·.1) = kI d i p j q k') ∧ J pre w7 ∧ Below w0.heap.size w0 w7 ∧ Hid (w7.heap[Bd]? = some (.cells #[.slice (some ⟨b, o, none⟩) d.length vc] 22) ∧ w7.heap[Ba]? = some (.cells #[.int .i64 i, .int .i64 p] 24) ∧ w7.heap[Bb]? = some (.cells #[.int .i64 j, .int .i64 q] 24)) ∧ W.heap.size ≤ w7.heap.size := by
    intro w7 hj7 hk7;refine ⟨k + 1, _, by omega, by omega, by simp; omega, rfl, zA ?_, hj7, (jF hb1 HD1.out).trans hk7.below, zA ⟨hk7.cells _ _ hbase.1 HBL.out.1 rfl, hk7.cells _ _ hbase.2.1 HBL.out.2.1 rfl, hk7.cells _ _ hbase.2.2 HBL.out.2.2 rfl⟩, Nat.le_trans hz1 hk7.below.size⟩;rw [zCI d hk1, List.map_append, HP.out]
    rfl
   have HNX := zA hNext;have hYY := HY.out pre ⟨rowB d i p j q k, HOK.out k hk1 hlt⟩ wr.drew HJ1.out qC;have hrow : uH (⟨rowB d i p j q k, HOK.out k hk1 hlt⟩ : RowX d) = #[.int .i64 k, .agg #[.int .i64 ((if k = i then p else 0 : Nat) : Int), .int .i64 ((if k = j then q else l0.cells.length : Nat) : Int)]] := by unfold uH; simp only [HL0.out]
   rw [hrow] at hYY;clear hAk hl0 hNext hJs HJ1 HL0 hrow;rcases (show k = i ∧ k = j ∨ k = i ∧ ¬ k = j ∨ ¬ k = i ∧ k = j ∨ ¬ k = i ∧ ¬ k = j by omega) with ⟨e1, e2⟩ | ⟨e1, e2⟩ | ⟨e1, e2⟩ | ⟨e1, e2⟩
   ·rw [if_pos e1, if_pos e2] at hYY
    have hq1 : ((k : Int) == (i : Int)) = true := by simp; omega
    have hq2 : ((k : Int) == (j : Int)) = true := by simp; omega
    have hq3 : decide ((k : Int) ≤ (j : Int)) = true := by simp; omega
    try rw [show ((0 : Nat) : Int) = 0 from rfl] at hYY
    obtain ⟨fn, tmps, assign, body, hy, hR⟩ := hYY;clear e1 e2
    gi_wp2_with fail
    gi_region
    gi_wp2_with fail
    refine hR.mono ?_;rintro e w7 (⟨rfl, hJ7, hk7⟩ | ⟨rfl, hJx7⟩)
    ·gi_wp2_with fail
     obtain ⟨k', pre', g1, g2, g3, e3, g4, g5, g6, g7, g8⟩ := HNX.out w7 hJ7 hk7;go_roundw
     case rel => exact ⟨k', pre', g1, g2, g3, by rw [e3]; go_num, g4, g5, g6, g7, g8⟩
     case measure => simp [intOf]; omega
    ·gi_wp2_with fail
     refine zM (results_none rfl _ _ _) rfl ?_;exact ⟨⟨_, rfl⟩, .inr ⟨_, trivial, hJx7⟩⟩
   ·rw [if_pos e1, if_neg e2] at hYY
    have hq1 : ((k : Int) == (i : Int)) = true := by simp; omega
    have hq2 : ((k : Int) == (j : Int)) = false := by simp; omega
    have hq3 : decide ((k : Int) ≤ (j : Int)) = true := by simp; omega
    try rw [show ((0 : Nat) : Int) = 0 from rfl] at hYY
    obtain ⟨fn, tmps, assign, body, hy, hR⟩ := hYY;clear e1 e2
    gi_wp2_with fail
    gi_region
    gi_wp2_with fail
    refine hR.mono ?_;rintro e w7 (⟨rfl, hJ7, hk7⟩ | ⟨rfl, hJx7⟩)
    ·gi_wp2_with fail
     obtain ⟨k', pre', g1, g2, g3, e3, g4, g5, g6, g7, g8⟩ := HNX.out w7 hJ7 hk7;go_roundw
     case rel => exact ⟨k', pre', g1, g2, g3, by rw [e3]; go_num, g4, g5, g6, g7, g8⟩
     case measure => simp [intOf]; omega
    ·gi_wp2_with fail
     refine zM (results_none rfl _ _ _) rfl ?_;exact ⟨⟨_, rfl⟩, .inr ⟨_, trivial, hJx7⟩⟩
   ·rw [if_neg e1, if_pos e2] at hYY
    have hq1 : ((k : Int) == (i : Int)) = false := by simp; omega
    have hq2 : ((k : Int) == (j : Int)) = true := by simp; omega
    have hq3 : decide ((k : Int) ≤ (j : Int)) = true := by simp; omega
    try rw [show ((0 : Nat) : Int) = 0 from rfl] at hYY
    obtain ⟨fn, tmps, assign, body, hy, hR⟩ := hYY;clear e1 e2
    gi_wp2_with fail
    gi_region
    gi_wp2_with fail
    refine hR.mono ?_;rintro e w7 (⟨rfl, hJ7, hk7⟩ | ⟨rfl, hJx7⟩)
    ·gi_wp2_with fail
     obtain ⟨k', pre', g1, g2, g3, e3, g4, g5, g6, g7, g8⟩ := HNX.out w7 hJ7 hk7;go_roundw
     case rel => exact ⟨k', pre', g1, g2, g3, by rw [e3]; go_num, g4, g5, g6, g7, g8⟩
     case measure => simp [intOf]; omega
    ·gi_wp2_with fail
     refine zM (results_none rfl _ _ _) rfl ?_;exact ⟨⟨_, rfl⟩, .inr ⟨_, trivial, hJx7⟩⟩
   ·rw [if_neg e1, if_neg e2] at hYY
    have hq1 : ((k : Int) == (i : Int)) = false := by simp; omega
    have hq2 : ((k : Int) == (j : Int)) = false := by simp; omega
    have hq3 : decide ((k : Int) ≤ (j : Int)) = true := by simp; omega
    try rw [show ((0 : Nat) : Int) = 0 from rfl] at hYY
    obtain ⟨fn, tmps, assign, body, hy, hR⟩ := hYY;clear e1 e2
    gi_wp2_with fail
    gi_region
    gi_wp2_with fail
    refine hR.mono ?_;rintro e w7 (⟨rfl, hJ7, hk7⟩ | ⟨rfl, hJx7⟩)
    ·gi_wp2_with fail
     obtain ⟨k', pre', g1, g2, g3, e3, g4, g5, g6, g7, g8⟩ := HNX.out w7 hJ7 hk7;go_roundw
     case rel => exact ⟨k', pre', g1, g2, g3, by rw [e3]; go_num, g4, g5, g6, g7, g8⟩
     case measure => simp [intOf]; omega
    ·gi_wp2_with fail
     refine zM (results_none rfl _ _ _) rfl ?_;exact ⟨⟨_, rfl⟩, .inr ⟨_, trivial, hJx7⟩⟩
  ·obtain rfl : k = j + 1 := by omega
   gi_wp2_with fail
   go_end0;exact ⟨⟨_, rfl⟩, .inl ⟨pre, HP.out, hJs⟩⟩
end Go.Proofs.YtjgeadoncanheaaGreatDoor
namespace Go.Proofs.Qw
open Go.RowKit Go.Proofs.YtjgeadoncanheaaGreatDoor
def vW (d : Doc) (x : Nat × Nat × Nat) : List Cel := ((d.getD x.1 default).cells.drop x.2.1).take (x.2.2 - x.2.1)
def kM (d : Doc) (l : List (Nat × Nat × Nat)) : List Cel := l.flatMap (vW d)
def cellsD (d : Doc) (a b : Ps) : List Cel := if kF d a b = true then kM d (kI d a.line.toNat a.col.toNat b.line.toNat b.col.toNat (b.line.toNat + 1)) else []
theorem zEo (d : Doc) (l : List (Nat × Nat × Nat)) (x : Nat × Nat × Nat) : kM d (l ++ [x]) = kM d l ++ vW d x := by simp [kM]
theorem zCV {d : Doc} {x : Nat × Nat × Nat} {l : Lin} (h : d[x.1]? = some l) : vW d x = (l.cells.drop x.2.1).take (x.2.2 - x.2.1) := by simp [vW, List.getD, h]
theorem zFj {d : Doc} (hs : jU d ≤ 100000) (x : Nat × Nat × Nat) : (vW d x).length ≤ 100000 := by
 unfold vW;rw [List.length_take, List.length_drop]
 by_cases hx : x.1 < d.length
 ·obtain ⟨l, hl, _⟩ := jO d x.1 hx
  have := zBl hl;simp only [List.getD, hl, Option.getD_some]
  omega
 ·rw [List.getD, List.getElem?_eq_none qC]
  have : (Option.getD (none : Option Lin) default).cells.length = 0 := rfl
  omega
theorem zFi {d : Doc} (hs : jU d ≤ 100000) : ∀ l : List (Nat × Nat × Nat), (kM d l).length ≤ l.length * 100000
 | [] => by simp [kM]
 | x :: l => by
  have h1 := zFj hs x;have h2 := zFi hs l;have : kM d (x :: l) = vW d x ++ kM d l := by simp [kM]
  rw [this, List.length_append, List.length_cons, Nat.succ_mul]
  omega
theorem kZ {β : Type} (B k : Nat) (cs : Array Value) (t : TypeId) : OwnFrom B (fun (_ : β) (W : World) => W.heap[k]? = some (.cells cs t)) := fun _ X _ _ hs hg hr =>
 (hg.block k (Array.getElem?_eq_some_iff.1 hs).1 (fun e => by obtain ⟨_, o, ho, hc⟩ := hr k e.symm; rw [hs] at ho; cases ho; cases hc)).trans hs
end Go.Proofs.Qw
namespace Go.Proofs.YtjgeadoncanheaaGreatDoor
open Go.RowKit
open Go.Proofs.Qw
attribute [local go_sem] Oper.semAt_some
open _root_.Go.Lib renaming hid → zA
open _root_.And renaming intro → zB
open _root_.Nat renaming le_refl → zC
open _root_.Go.RowKit.Below renaming refl → zE
open _root_.List renaming getElem?_eq_some_iff → zK
open _root_.Int renaming natCast_nonneg → zR
open _root_.Go.Proofs.Tryz renaming prog → zV
open _root_.Go.Proofs.YtjgeadoncanheaaGreatDoor renaming jG → zX, jH → zY, jL → qR
theorem zDI {fn : Func} {p u : Tmp} (h : fn.results = #[.cell p 3, .cell u 3]) (tmps : Array Value) (w : World) (a b : Addr) (x y : Int) (hp : tmps.getD p undef = .pointer (some a)) (hu : tmps.getD u undef = .pointer (some b)) (h1 : w.cell? a = some (.int .i64 x)) (h2 : w.cell? b = some (.int .i64 y)) :
  (results fn tmps).run zV w = .ok (.tuple #[.int .i64 x, .int .i64 y]) w := by
 simp only [results, h];simp at hp hu;simp [go_sem, hp, hu, h1, h2]
def TI (d : Doc) (so : Cel → Bool) (v fv : Value) (w : World) (n : Nat) (pre : List (RowX d)) (W : World) : Prop :=
 Boxed W (w.heap.size + 4) 3 (.int .i64 (kM d (pre.map (·.1))).length) ∧ Boxed W (w.heap.size + 5) 3 (.int .i64 ((kM d (pre.map (·.1))).countP so)) ∧
  W.heap[w.heap.size]? = some (.cells #[v] 22) ∧ W.heap[w.heap.size + 3]? = some (.cells #[fv] 89) ∧ Below w.heap.size w W ∧ n ≤ W.heap.size
theorem zKV {d : Doc} {so : Cel → Bool} {v fv : Value} {w : World} {n B : Nat} (hB : w.heap.size ≤ B) : OwnFrom B (TI d so v fv w n) :=
 OwnFrom.and (Own.from (boxed_own _ _ (fun pre : List (RowX d) => .int .i64 (kM d (pre.map (·.1))).length)) _) (OwnFrom.and (Own.from (boxed_own _ _ (fun pre : List (RowX d) => .int .i64 ((kM d (pre.map (·.1))).countP so))) _)
  (OwnFrom.and (kZ _ _ _ _) (OwnFrom.and (kZ _ _ _ _) (OwnFrom.and (ownFrom_below (zC _) hB) (uA _ _)))))
set_option maxRecDepth 200000 in
theorem zCS (v : Value) (d : Doc) (a b : Ps) (g : Nat) (lb : Array Value) (so : Cel → Bool) (w : World) (S : Nat → Prop) (h : jE w S v d) (he : EnvT w) (hs : Small d)
  (eg : ∀ args w, (callFunc g args).run zV w = .ok (.enter g args) w)
  (hg : ∀ W x, Below w.heap.size w W → Calls zV g (#[celV x] ++ lb) W fun e w' => e = .returned (.bool (so x)) ∧ Below W.heap.size W w') :
  Calls zV 93 #[v, posV a, posV b, .func (.func g) #[] lb] w fun e w' => e = .returned (.tuple #[.int .i64 (cellsD d a b).length, .int .i64 ((cellsD d a b).countP so)]) ∧ Below w.heap.size w w' := by
 obtain ⟨va, vc, rfl⟩ := h.slice;obtain ⟨W1, hW1⟩ : ∃ W1, (((((w.alloc (.cells #[.slice va d.length vc] 22)).alloc (.cells #[.int .i64 a.line, .int .i64 a.col] 24)).alloc (.cells #[.int .i64 b.line, .int .i64 b.col] 24)).alloc (.cells #[.func (.func g) #[] lb] 89)).alloc (.cells #[.int .i64 0] 3)).alloc (.cells #[.int .i64 0] 3) = W1 := ⟨_, rfl⟩;have hB : Below w.heap.size w W1 := hW1 ▸ ((((((zE _ _).alloc (zC _) _).alloc qE _).alloc jB _).alloc jB _).alloc jB _).alloc jB _;have hz : W1.heap.size = w.heap.size + 6 := by rw [← hW1]; simp
 have k0 : W1.heap[w.heap.size]? = some (.cells #[.slice va d.length vc] 22) := hW1 ▸ zY _ _ (zY _ _ (zY _ _ (zY _ _ (zY _ _ (jD _ _ rfl)))));have k1 : W1.heap[w.heap.size + 1]? = some (.cells #[.int .i64 a.line, .int .i64 a.col] 24) := hW1 ▸ zY _ _ (zY _ _ (zY _ _ (zY _ _ (jD _ _ qE))));have k2 : W1.heap[w.heap.size + 2]? = some (.cells #[.int .i64 b.line, .int .i64 b.col] 24) := hW1 ▸ zY _ _ (zY _ _ (zY _ _ (jD _ _ qE)));have k3 : W1.heap[w.heap.size + 3]? = some (.cells #[.func (.func g) #[] lb] 89) := hW1 ▸ zY _ _ (zY _ _ (jD _ _ qE));have k4 : W1.heap[w.heap.size + 4]? = some (.cells #[.int .i64 0] 3) := hW1 ▸ zY _ _ (jD _ _ qE);have k5 : W1.heap[w.heap.size + 5]? = some (.cells #[.int .i64 0] 3) := hW1 ▸ jD _ _ qE;have HC1 := zA (zAk _ d a b W1 S (h.below (jW _) hB) (he.below hB) hs)
 have HK : Hid (∀ W, Below W1.heap.size W1 W → W.heap[w.heap.size]? = some (.cells #[.slice va d.length vc] 22) ∧ W.heap[w.heap.size + 1]? = some (.cells #[.int .i64 a.line, .int .i64 a.col] 24) ∧ W.heap[w.heap.size + 2]? = some (.cells #[.int .i64 b.line, .int .i64 b.col] 24) ∧
  W.heap[w.heap.size + 3]? = some (.cells #[.func (.func g) #[] lb] 89) ∧ W.heap[w.heap.size + 4]? = some (.cells #[.int .i64 0] 3) ∧ W.heap[w.heap.size + 5]? = some (.cells #[.int .i64 0] 3)) := zA fun W hW => ⟨zX hW k0, zX hW k1, zX hW k2, zX hW k3, zX hW k4, zX hW k5⟩
 have HP : Hid (∀ p : Ps, posV p = .agg #[.int .i64 p.line, .int .i64 p.col]) := zA fun _ => rfl;have H1 := zA hB;have HL := zA h;have HG := zA hg;have HS := zA hs;have hs1 := hB.size;obtain ⟨p0, f0⟩ := blk k0;obtain ⟨p1, f1⟩ := blk k1;obtain ⟨p2, f2⟩ := blk k2;obtain ⟨p3, f3⟩ := blk k3;obtain ⟨p4, f4⟩ := blk k4;obtain ⟨p5, f5⟩ := blk k5;clear h he hs hg k0 k1 k2 k3 k4 k5 hB;cases hsp : kF d a b
 ·have HR : Hid (cellsD d a b = []) := zA (by unfold cellsD; rw [hsp]; rfl)
  rw [hsp] at HC1;clear hsp;rw [HP.out a, HP.out b] at HC1 ⊢;go_enter Tryz.func93, Tryz.ntmps93;go_wp2_with (go_at_call 154; refine HC1.out.mono ?_; rintro e w2 ⟨rfl, hb2⟩; obtain ⟨q4, g4⟩ := blk (HK.out _ hb2).2.2.2.2.1; obtain ⟨q5, g5⟩ := blk (HK.out _ hb2).2.2.2.2.2);refine bodyPost_ret (zDI rfl _ _ ⟨w.heap.size + 1 + 1 + 1 + 1, 0, none⟩ ⟨w.heap.size + 1 + 1 + 1 + 1 + 1, 0, none⟩ 0 0 rfl rfl ((kE qC).trans (xY (q4 0))) (xY ((kE qC).trans (q5 0)))) rfl ?_;rw [HR.out];exact ⟨rfl, ((H1.out.trans (hb2.mono hs1)).setCell jB _).setCell jB _⟩
 ·obtain ⟨_, i, j, p, q, l, m, rfl, rfl, hl, hm, hp, hq, hij, hpq⟩ := vS hsp
  have hjl := (zK.1 hm).1;have HR : Hid (cellsD d ⟨i, p⟩ ⟨j, q⟩ = kM d (kI d i p j q (j + 1))) := zA (by unfold cellsD; rw [hsp, if_pos rfl]; rfl);have HOK : Hid (∀ k, i ≤ k → k ≤ j → zAs d (rowB d i p j q k)) := zA fun k h1 h2 => zDj hl hm hp hq hpq h1 h2;rw [hsp] at HC1;clear hsp hl hm hp hq hpq;rw [HP.out, HP.out] at HC1 ⊢;refine (callsIn_wide (n := 6)).1 ?_;refine callsIn_of_wp_marks Tryz.func93 rfl trivial ?_ rfl;simp only [Tryz.ntmps93, List.size_toArray, List.length_cons, List.length_nil, Nat.reduceAdd, Nat.reduceSub, Array.replicate_succ, Array.replicate_zero, List.push_toArray, List.append_toArray, List.nil_append, List.cons_append];have hwf : ∀ f, Fence.wide.fn f := fun _ => trivial;have hwd : Fence.wide.depth = none := rfl
  gi_wp2_with (first
   | (gi_at_call 154; refine (callsIn_wide.2 HC1.out).mono ?_; rintro e w2 ⟨rfl, hb2⟩; obtain ⟨q0, g0⟩ := blk (HK.out _ hb2).1; obtain ⟨q1, g1⟩ := blk (HK.out _ hb2).2.1; obtain ⟨q2, g2⟩ := blk (HK.out _ hb2).2.2.1)
   | (gi_at_call 155; refine (callsIn_wide.2 (zCK _ _ _ _ _ _ _ _)).mono ?_; rintro e w3 ⟨rfl, rfl⟩))
  obtain ⟨w3, hw3⟩ : ∃ w3, ((w2.alloc (.cells #[.slice va d.length vc] 22)).alloc (.cells #[.int .i64 i, .int .i64 p] 24)).alloc (.cells #[.int .i64 j, .int .i64 q] 24) = w3 := ⟨_, rfl⟩;rw [hw3];obtain ⟨t0, t1, t2, t3, t4, t5⟩ := HK.out _ hb2;have hw2 := hb2.size;have hb23 : Below w2.heap.size w2 w3 := hw3 ▸ (((zE _ _).alloc (zC _) _).alloc qE _).alloc jB _;have hz3 : w3.heap.size = w2.heap.size + 3 := by rw [← hw3]; simp
  have n0 : w3.heap[w2.heap.size]? = some (.cells #[.slice va d.length vc] 22) := hw3 ▸ zY _ _ (zY _ _ (jD _ _ rfl));have n1 : w3.heap[w2.heap.size + 1]? = some (.cells #[.int .i64 i, .int .i64 p] 24) := hw3 ▸ zY _ _ (jD _ _ qE);have n2 : w3.heap[w2.heap.size + 2]? = some (.cells #[.int .i64 j, .int .i64 q] 24) := hw3 ▸ jD _ _ qE;have hb3 : Below w.heap.size w w3 := H1.out.trans ((jF hb2 hb23).mono hs1);have hTI : TI d so (.slice va d.length vc) (.func (.func g) #[] lb) w w3.heap.size [] w3 := ⟨zX hb23 t4, zX hb23 t5, zX hb23 t0, zX hb23 t3, hb3, zC _⟩;clear hw3 q0 q1 q2 g0 g1 g2 p0 p1 p2 p3 p4 p5 f0 f1 f2 f3 f4 f5 t0 t1 t2 t3 t4 t5 hW1;have N0 := zA (zB n0 (zB n1 n2));clear n0 n1 n2
  refine zBa rfl qC (gf := 209) (lb := #[.pointer (some ⟨w2.heap.size + 1, 0, none⟩), .pointer (some ⟨w2.heap.size + 2, 0, none⟩), .pointer (some ⟨w2.heap.size, 0, none⟩)]) rfl trivial (enters_of Tryz.func209 zT rfl)
   (encs := uH (d := d)) (n₀ := w.heap.size) (base := w2.heap.size) (S := fun ys => ys.map (·.1) = kI d i p j q (j + 1)) (Sp := fun _ => True) (N := 200000) (w0 := w3) ?seq qC (zE _ _) (fun _ => rfl)
   (TI d so (.slice va d.length vc) (.func (.func g) #[] lb) w w3.heap.size) (fun _ _ _ => False) (zKV qC) (fun _ _ _ _ _ hs _ _ => hs) hTI (fun _ _ h => h.2.2.2.2.2)
   (fun x => #[.int .i64 x.1.2.1, .int .i64 x.1.2.2]) 164 ?act ?assign ?body ?done ?stop
  case seq =>
   intro l J Jx W hW hJ _ hY h0;exact zEr 5 l w2.heap.size (w2.heap.size + 1) (w2.heap.size + 2) w2.heap.size (.slice va d.length vc) d i p j q S J Jx w W HL.out (hb3.trans (hW.mono hb3.size)) ⟨by omega, by omega, by omega⟩ (zX hW N0.out.1) (zX hW N0.out.2.1) (zX hW N0.out.2.2) hij hjl HOK.out HS.out.2.1 hJ hY h0
  case assign =>
   intro l pre x W K Bx hBx hI hK
   gi_wp2
   rw [← hBx];exact hK
  case body =>
   intro l pre x Bx W hI hBx hbx hlt;have HI := zA hI;obtain ⟨b4, b5, t0, t3, hb, hz⟩ := hI;obtain ⟨ln, hln, hft, htl⟩ := x.2;have hci := zCV hln;obtain ⟨xi, exi⟩ : ∃ z, x.1.1 = z := ⟨_, rfl⟩;obtain ⟨xf, exf⟩ : ∃ z, x.1.2.1 = z := ⟨_, rfl⟩;obtain ⟨xt, ext⟩ : ∃ z, x.1.2.2 = z := ⟨_, rfl⟩;rw [exf, ext] at hci hft hbx;rw [exi] at hln;rw [ext] at htl;rw [exi, exf, ext];have HCI := zA hci;clear exi exf ext hci;have HLN := zA hln;have hil := (zK.1 hln).1;obtain ⟨va', vc', hve, hvc, hvm, hx⟩ := kP HL.out;cases hve;obtain ⟨bb, o, la, lc, ca, cc, rfl, hAk⟩ := hx xi ln hln;obtain ⟨_, _, _, _, c3, _, _⟩ := hAk.below hb;have hcr := hAk.cellsR;have hccl := hcr.len;have HCR := zA hcr;have HBB := zA (zB b4 (zB b5 (zB t0 t3)));obtain ⟨p0, f0⟩ := blk t0;obtain ⟨p6, f6⟩ := blk hbx;unfold maxLen at hvm hccl;clear hln hx hAk hcr b4 b5 t0 t3 hbx;have i0 : (0 : Int) ≤ (xi : Int) := zR _;have i1 : (xi : Int) < (d.length : Int) := by omega
   have u0 : (0 : Int) ≤ (xf : Int) := zR _;have u1 : (xf : Int) ≤ (xt : Int) := by omega
   have u2 : (xt : Int) ≤ (cc : Int) := by omega
   have hA1 := zFi HS.out.1 (pre.map (·.1));rw [List.length_map] at hA1;obtain ⟨A, hA⟩ : ∃ A, (kM d (pre.map (·.1))).length = A := ⟨_, rfl⟩;obtain ⟨C, hC⟩ : ∃ C, (kM d (pre.map (·.1))).countP so = C := ⟨_, rfl⟩;have hCA : C ≤ A := by rw [← hA, ← hC]; exact List.countP_le_length
   have hA2 : A ≤ 20000000000 := by omega
   obtain ⟨row, hrow⟩ : ∃ row, vW d x.1 = row := ⟨_, rfl⟩;have HSN : Hid ((kM d ((pre ++ [x]).map (·.1))).length = A + row.length ∧ (kM d ((pre ++ [x]).map (·.1))).countP so = C + row.countP so) := zA (by rw [List.map_append, List.map_singleton, zEo, hrow, List.length_append, List.countP_append, hA, hC]; exact ⟨rfl, rfl⟩);have hn1 : row.length ≤ 100000 := hrow ▸ zFj HS.out.1 x.1;have hrl : row.length = xt - xf := by rw [← hrow, HCI.out, List.length_take, List.length_drop]; omega
   have hpair : ∃ X, Hid (∀ W', Below w.heap.size w W' → jC false W' S (.slice X (xt - xf) (cc - xf)) row) ∧ ((cc = xf ∧ ca = X) ∨ (¬ cc = xf ∧ ca.map (·.add (xf * 3)) = X)) := by
    have hh : ∀ W', Below w.heap.size w W' → jC false W' S (sliced ca xf xt cc 3) row := fun W' hW => by
     rw [← hrow, HCI.out];exact (SliceR.below (jV _) HCR.out hW).part (i := xf) (j := xt) (m := cc) hft htl qC (zC _)
    by_cases hcq : cc = xf
    ·exact ⟨ca, fun W hW => by have := hh W hW; simpa only [sliced, if_pos hcq] using this, .inl ⟨hcq, rfl⟩⟩
    ·exact ⟨_, fun W hW => by have := hh W hW; simpa only [sliced, if_neg hcq] using this, .inr ⟨hcq, rfl⟩⟩
   rw [hA, hC] at HBB;obtain ⟨X, HP2, hcq⟩ := hpair;have hbz := hb.size;have HGG : Hid (∀ W x, Below w.heap.size w W → Calls zV g (#[.agg #[.int .i32 x.r, .int .i64 x.bits, .string ⟨x.href.toArray⟩]] ++ lb) W fun e w' => e = .returned (.bool (so x)) ∧ Below W.heap.size W w') := HG;clear hA hC hrow HI HCR HCI HG HL;obtain ⟨nl, hnl⟩ : ∃ nl, xt - xf = nl := ⟨_, rfl⟩;rw [hnl] at HP2 hrl;rcases hcq with ⟨hcq, hX⟩ | ⟨hcq, hX⟩
   ·subst hcq ; obtain rfl : xt = cc := qC ; obtain rfl : nl = 0 := qC
    gi_wp2_with fail
    refine zDy zT zT zT ?_
    repeat (quiet_step_in (fail))
    refine wpQuietIn_nil ?_;intro _ hw';obtain ⟨nq, rfl⟩ := hw'
    gi_wp2_with fail
    gi_loopw [36, 13] (fun z _ wr => ∃ m : Nat, m ≤ 0 ∧ z = .int .i64 m ∧ Hid (Boxed wr (w.heap.size + 4) 3 (.int .i64 ((A + m : Nat) : Int)) ∧ Boxed wr (w.heap.size + 5) 3 (.int .i64 ((C + (row.take m).countP so : Nat) : Int)) ∧ wr.heap[w.heap.size]? = some (.cells #[.slice (some ⟨bb, o, none⟩) d.length vc] 22) ∧ wr.heap[w.heap.size + 3]? = some (.cells #[.func (.func g) #[] lb] 89)) ∧ Hid (KeepsFrom w3.heap.size W wr ∧ Kp w.heap.size w2.heap.size W wr ∧ Below w.heap.size w wr)) (fun z _ _ => 0 - (intOf z).toNat)
    case atStart => exact ⟨0, Nat.zero_le _, rfl, HBB, zA ⟨((vI (jN (zE _ _))).from _), Kp.of_below hbz (jN (zE _ _)), jN hb⟩⟩
    case round =>
     obtain ⟨m, hm, rfl, HBX, HKK⟩ := hrel;obtain ⟨q3, g3⟩ := blk HBX.out.2.2.2;obtain ⟨q4, g4⟩ := blk HBX.out.1;obtain ⟨q5, g5⟩ := blk HBX.out.2.1;have hzr : w.heap.size + 6 ≤ wr.heap.size := by have := HKK.out.1.size; omega
     obtain ⟨cm, hcm⟩ : ∃ cm, (row.take m).countP so = cm := ⟨_, rfl⟩;have hcm5 : cm ≤ 100000 := by rw [← hcm]; exact Nat.le_trans List.countP_le_length uN
     rw [hcm] at HBX
     by_cases hlt2 : m < 0
     ·exact absurd hlt2 (Nat.not_lt_zero _)
      all_goals
       obtain ⟨c, hc, _⟩ := jO row m qC;have q3a : ∀ ob, (wr.alloc ob).cell? ⟨w.heap.size + 1 + 1 + 1, 0, none⟩ = some (.func (.func g) #[] lb) := fun ob => (World.cell?_of_block (heap_alloc_old _ _ (by show w.heap.size + 1 + 1 + 1 < _; omega))).trans (q3 0);have q4a : ∀ ob, (wr.alloc ob).cell? ⟨w.heap.size + 1 + 1 + 1 + 1, 0, none⟩ = some (.int .i64 ((A + m : Nat) : Int)) := fun ob => (World.cell?_of_block (heap_alloc_old _ _ zCl)).trans (q4 0);have g4a : ∀ ob, (wr.alloc ob).frozen? ⟨w.heap.size + 1 + 1 + 1 + 1, 0, none⟩ = false := fun ob => xF ((heap_alloc_old _ _ zCl).trans HBX.out.1);have ne4 : ¬ w.heap.size + 1 + 1 + 1 + 1 = wr.heap.size := by omega
       have ne4' : ¬ wr.heap.size = w.heap.size + 1 + 1 + 1 + 1 := by omega
       obtain ⟨X', c', hXe, _, _, hcx⟩ := uB (HP2.out wr HKK.out.2.2);cases hXe;obtain ⟨bc, oc, rfl, hzc, k0, k1, k2⟩ := hcx m c hc;obtain ⟨sb, hsb⟩ : ∃ sb, so c = sb := ⟨_, rfl⟩;have HCL : Hid (∀ W, Below w.heap.size w W → Calls zV g (#[.agg #[.int .i32 c.r, .int .i64 c.bits, .string ⟨c.href.toArray⟩]] ++ lb) W fun e w' => e = .returned (.bool sb) ∧ Below W.heap.size W w') := zA (by intro W hW; have := HGG.out W c hW; rwa [hsb] at this);have j0 : (0 : Int) ≤ (m : Int) := zR _;clear hcx
       gi_wp2_with fail
       obtain ⟨w4, hw4⟩ : ∃ w4, ((wr.alloc (.cells #[.int .i32 c.r, .int .i64 c.bits, .string ⟨c.href.toArray⟩] 43)).setCell ⟨w.heap.size + 1 + 1 + 1 + 1, 0, none⟩ (.int .i64 ((A : Int) + (m : Int) + 1))) = w4 := ⟨_, rfl⟩;rw [hw4];have hk4 : KeepsFrom w3.heap.size W w4 ∧ Kp w.heap.size w2.heap.size W w4 ∧ Below w.heap.size w w4 := hw4 ▸ ⟨HKK.out.1.trans (((KeepsOthers.alloc _ _).trans (KeepsOthers.setCell _ _ _)).from _), HKK.out.2.1.t ((Kp.of_below qC ((zE _ _).alloc (zC _) _)).t (Kp.setCell _ qC qC _)), (HKK.out.2.2.alloc qC _).setCell zCj _⟩
       have e4 : w4.heap[w.heap.size + 4]? = some (.cells #[.int .i64 ((A : Int) + (m : Int) + 1)] 3) := by
        rw [← hw4, qR, if_pos rfl, heap_alloc_old _ _ qC, show wr.heap[w.heap.size + 4]? = _ from HBX.out.1]; rfl
       have e5 : w4.heap[w.heap.size + 5]? = some (.cells #[.int .i64 ((C + cm : Nat) : Int)] 3) := by
        rw [← hw4, qR, if_neg zAU, heap_alloc_old _ _ qC]; exact HBX.out.2.1
       have e0 : w4.heap[w.heap.size]? = some (.cells #[.slice (some ⟨bb, o, none⟩) d.length vc] 22) := by
        rw [← hw4, qR, if_neg zAU, heap_alloc_old _ _ qC]; exact HBX.out.2.2.1
       have e3 : w4.heap[w.heap.size + 3]? = some (.cells #[.func (.func g) #[] lb] 89) := by
        rw [← hw4, qR, if_neg zAU, heap_alloc_old _ _ qC]; exact HBX.out.2.2.2
       refine (CallsIn.inRound l (callsIn_wide.2 (HCL.out _ hk4.2.2))).mono ?_;rintro e w5 ⟨rfl, hb5⟩;have hk5 : KeepsFrom w3.heap.size W w5 ∧ Kp w.heap.size w2.heap.size W w5 ∧ Below w.heap.size w w5 := ⟨hk4.1.trans ((vI hb5).from _), hk4.2.1.t (Kp.of_below hk4.2.2.size hb5), jF hk4.2.2 hb5⟩;have y4 := zX hb5 e4;have y5 := zX hb5 e5;have y0 := zX hb5 e0;have y3 := zX hb5 e3
       have hcs : (row.take (m + 1)).countP so = cm + (if sb = true then 1 else 0) := by
        rw [xQ hc, List.countP_append, hcm, List.countP_singleton, hsb]
       have HK5 := zA hk5;have HY := zA (zB y4 (zB y5 (zB y0 y3)));have HCS := zA hcs;have q5a : w5.cell? ⟨w.heap.size + 1 + 1 + 1 + 1 + 1, 0, none⟩ = some (.int .i64 ((C + cm : Nat) : Int)) := jR y5;have g5a : w5.frozen? ⟨w.heap.size + 1 + 1 + 1 + 1 + 1, 0, none⟩ = false := xF y5;clear hw4 hk4 hk5 e0 e3 e4 e5 y0 y3 y4 y5 hb5 q3 g3 q4 g4 q5 g5 q3a q4a g4a hc hcs hsb k0 k1 k2 hzc;cases sb
       ·gi_wp2_with fail
        go_roundw
        case rel =>
         refine ⟨m + 1, by omega, by go_num, zA ⟨?_, ?_, HY.out.2.2.1, HY.out.2.2.2⟩, HK5⟩
         ·rw [show ((A + (m + 1) : Nat) : Int) = (A : Int) + (m : Int) + 1 by omega]; exact HY.out.1
         ·rw [HCS.out]; exact HY.out.2.1
        case measure => simp [intOf]; omega
       ·gi_wp2_with fail
        go_roundw
        case rel =>
         refine ⟨m + 1, by omega, by go_num, zA ⟨?_, ?_, ?_, ?_⟩, zA ⟨HK5.out.1.trans ((KeepsOthers.setCell _ _ _).from _), HK5.out.2.1.t (Kp.setCell _ qC qC _), HK5.out.2.2.setCell zDr _⟩⟩
         ·unfold Boxed
          rw [qR, if_neg zAT, show ((A + (m + 1) : Nat) : Int) = (A : Int) + (m : Int) + 1 by omega]; exact HY.out.1
         ·unfold Boxed
          rw [HCS.out, qR, if_pos rfl, HY.out.2.1];simp [qW]
          omega
         ·rw [qR, if_neg zAT]; exact HY.out.2.2.1
         ·rw [qR, if_neg zAT]; exact HY.out.2.2.2
        case measure => simp [intOf]; omega
     ·obtain rfl : m = 0 := by omega
      gi_wp2_with fail
      have ht : row.take 0 = row := List.take_of_length_le qC;rw [← hcm, ht] at HBX;exact ⟨HKK.out.1, HKK.out.2.1, by rw [HSN.out.1, show row.length = 0 by omega]; exact HBX.out.1, by rw [HSN.out.2]; exact HBX.out.2.1, HBX.out.2.2.1, HBX.out.2.2.2, HKK.out.2.2, by have := HKK.out.1.size; omega⟩
   ·skip
    gi_wp2_with fail
    refine zDy zT zT zT ?_
    repeat (quiet_step_in (fail))
    refine wpQuietIn_nil ?_;intro _ hw';obtain ⟨nq, rfl⟩ := hw'
    gi_wp2_with fail
    gi_loopw [36, 13] (fun z _ wr => ∃ m : Nat, m ≤ nl ∧ z = .int .i64 m ∧ Hid (Boxed wr (w.heap.size + 4) 3 (.int .i64 ((A + m : Nat) : Int)) ∧ Boxed wr (w.heap.size + 5) 3 (.int .i64 ((C + (row.take m).countP so : Nat) : Int)) ∧ wr.heap[w.heap.size]? = some (.cells #[.slice (some ⟨bb, o, none⟩) d.length vc] 22) ∧ wr.heap[w.heap.size + 3]? = some (.cells #[.func (.func g) #[] lb] 89)) ∧ Hid (KeepsFrom w3.heap.size W wr ∧ Kp w.heap.size w2.heap.size W wr ∧ Below w.heap.size w wr)) (fun z _ _ => nl - (intOf z).toNat)
    case atStart => exact ⟨0, Nat.zero_le _, rfl, HBB, zA ⟨((vI (jN (zE _ _))).from _), Kp.of_below hbz (jN (zE _ _)), jN hb⟩⟩
    case round =>
     obtain ⟨m, hm, rfl, HBX, HKK⟩ := hrel;obtain ⟨q3, g3⟩ := blk HBX.out.2.2.2;obtain ⟨q4, g4⟩ := blk HBX.out.1;obtain ⟨q5, g5⟩ := blk HBX.out.2.1;have hzr : w.heap.size + 6 ≤ wr.heap.size := by have := HKK.out.1.size; omega
     obtain ⟨cm, hcm⟩ : ∃ cm, (row.take m).countP so = cm := ⟨_, rfl⟩;have hcm5 : cm ≤ 100000 := by rw [← hcm]; exact Nat.le_trans List.countP_le_length uN
     rw [hcm] at HBX
     by_cases hlt2 : m < nl
     ·skip
      all_goals
       obtain ⟨c, hc, _⟩ := jO row m qC;have q3a : ∀ ob, (wr.alloc ob).cell? ⟨w.heap.size + 1 + 1 + 1, 0, none⟩ = some (.func (.func g) #[] lb) := fun ob => (World.cell?_of_block (heap_alloc_old _ _ (by show w.heap.size + 1 + 1 + 1 < _; omega))).trans (q3 0);have q4a : ∀ ob, (wr.alloc ob).cell? ⟨w.heap.size + 1 + 1 + 1 + 1, 0, none⟩ = some (.int .i64 ((A + m : Nat) : Int)) := fun ob => (World.cell?_of_block (heap_alloc_old _ _ zCl)).trans (q4 0);have g4a : ∀ ob, (wr.alloc ob).frozen? ⟨w.heap.size + 1 + 1 + 1 + 1, 0, none⟩ = false := fun ob => xF ((heap_alloc_old _ _ zCl).trans HBX.out.1);have ne4 : ¬ w.heap.size + 1 + 1 + 1 + 1 = wr.heap.size := by omega
       have ne4' : ¬ wr.heap.size = w.heap.size + 1 + 1 + 1 + 1 := by omega
       obtain ⟨X', c', hXe, _, _, hcx⟩ := uB (HP2.out wr HKK.out.2.2);cases hXe;obtain ⟨bc, oc, rfl, hzc, k0, k1, k2⟩ := hcx m c hc;obtain ⟨sb, hsb⟩ : ∃ sb, so c = sb := ⟨_, rfl⟩;have HCL : Hid (∀ W, Below w.heap.size w W → Calls zV g (#[.agg #[.int .i32 c.r, .int .i64 c.bits, .string ⟨c.href.toArray⟩]] ++ lb) W fun e w' => e = .returned (.bool sb) ∧ Below W.heap.size W w') := zA (by intro W hW; have := HGG.out W c hW; rwa [hsb] at this);have j0 : (0 : Int) ≤ (m : Int) := zR _;clear hcx
       gi_wp2_with fail
       obtain ⟨w4, hw4⟩ : ∃ w4, ((wr.alloc (.cells #[.int .i32 c.r, .int .i64 c.bits, .string ⟨c.href.toArray⟩] 43)).setCell ⟨w.heap.size + 1 + 1 + 1 + 1, 0, none⟩ (.int .i64 ((A : Int) + (m : Int) + 1))) = w4 := ⟨_, rfl⟩;rw [hw4];have hk4 : KeepsFrom w3.heap.size W w4 ∧ Kp w.heap.size w2.heap.size W w4 ∧ Below w.heap.size w w4 := hw4 ▸ ⟨HKK.out.1.trans (((KeepsOthers.alloc _ _).trans (KeepsOthers.setCell _ _ _)).from _), HKK.out.2.1.t ((Kp.of_below qC ((zE _ _).alloc (zC _) _)).t (Kp.setCell _ qC qC _)), (HKK.out.2.2.alloc qC _).setCell zCj _⟩
       have e4 : w4.heap[w.heap.size + 4]? = some (.cells #[.int .i64 ((A : Int) + (m : Int) + 1)] 3) := by
        rw [← hw4, qR, if_pos rfl, heap_alloc_old _ _ qC, show wr.heap[w.heap.size + 4]? = _ from HBX.out.1]; rfl
       have e5 : w4.heap[w.heap.size + 5]? = some (.cells #[.int .i64 ((C + cm : Nat) : Int)] 3) := by
        rw [← hw4, qR, if_neg zAU, heap_alloc_old _ _ qC]; exact HBX.out.2.1
       have e0 : w4.heap[w.heap.size]? = some (.cells #[.slice (some ⟨bb, o, none⟩) d.length vc] 22) := by
        rw [← hw4, qR, if_neg zAU, heap_alloc_old _ _ qC]; exact HBX.out.2.2.1
       have e3 : w4.heap[w.heap.size + 3]? = some (.cells #[.func (.func g) #[] lb] 89) := by
        rw [← hw4, qR, if_neg zAU, heap_alloc_old _ _ qC]; exact HBX.out.2.2.2
       refine (CallsIn.inRound l (callsIn_wide.2 (HCL.out _ hk4.2.2))).mono ?_;rintro e w5 ⟨rfl, hb5⟩;have hk5 : KeepsFrom w3.heap.size W w5 ∧ Kp w.heap.size w2.heap.size W w5 ∧ Below w.heap.size w w5 := ⟨hk4.1.trans ((vI hb5).from _), hk4.2.1.t (Kp.of_below hk4.2.2.size hb5), jF hk4.2.2 hb5⟩;have y4 := zX hb5 e4;have y5 := zX hb5 e5;have y0 := zX hb5 e0;have y3 := zX hb5 e3
       have hcs : (row.take (m + 1)).countP so = cm + (if sb = true then 1 else 0) := by
        rw [xQ hc, List.countP_append, hcm, List.countP_singleton, hsb]
       have HK5 := zA hk5;have HY := zA (zB y4 (zB y5 (zB y0 y3)));have HCS := zA hcs;have q5a : w5.cell? ⟨w.heap.size + 1 + 1 + 1 + 1 + 1, 0, none⟩ = some (.int .i64 ((C + cm : Nat) : Int)) := jR y5;have g5a : w5.frozen? ⟨w.heap.size + 1 + 1 + 1 + 1 + 1, 0, none⟩ = false := xF y5;clear hw4 hk4 hk5 e0 e3 e4 e5 y0 y3 y4 y5 hb5 q3 g3 q4 g4 q5 g5 q3a q4a g4a hc hcs hsb k0 k1 k2 hzc;cases sb
       ·gi_wp2_with fail
        go_roundw
        case rel =>
         refine ⟨m + 1, by omega, by go_num, zA ⟨?_, ?_, HY.out.2.2.1, HY.out.2.2.2⟩, HK5⟩
         ·rw [show ((A + (m + 1) : Nat) : Int) = (A : Int) + (m : Int) + 1 by omega]; exact HY.out.1
         ·rw [HCS.out]; exact HY.out.2.1
        case measure => simp [intOf]; omega
       ·gi_wp2_with fail
        go_roundw
        case rel =>
         refine ⟨m + 1, by omega, by go_num, zA ⟨?_, ?_, ?_, ?_⟩, zA ⟨HK5.out.1.trans ((KeepsOthers.setCell _ _ _).from _), HK5.out.2.1.t (Kp.setCell _ qC qC _), HK5.out.2.2.setCell zDr _⟩⟩
         ·unfold Boxed
          rw [qR, if_neg zAT, show ((A + (m + 1) : Nat) : Int) = (A : Int) + (m : Int) + 1 by omega]; exact HY.out.1
         ·unfold Boxed
          rw [HCS.out, qR, if_pos rfl, HY.out.2.1];simp [qW]
          omega
         ·rw [qR, if_neg zAT]; exact HY.out.2.2.1
         ·rw [qR, if_neg zAT]; exact HY.out.2.2.2
        case measure => simp [intOf]; omega
     ·obtain rfl : m = nl := by omega
      gi_wp2_with fail
      have ht : row.take m = row := List.take_of_length_le qC;rw [← hcm, ht] at HBX;exact ⟨HKK.out.1, HKK.out.2.1, by rw [HSN.out.1, show row.length = m by omega]; exact HBX.out.1, by rw [HSN.out.2]; exact HBX.out.2.1, HBX.out.2.2.1, HBX.out.2.2.2, HKK.out.2.2, by have := HKK.out.1.size; omega⟩
  case done =>
   rintro D ys W hD hys ⟨b4, b5, t0, t3, hb, hz⟩ hK;have q4 : W.cell? ⟨w.heap.size + 1 + 1 + 1 + 1, 0, none⟩ = some (.int .i64 (kM d (ys.map (·.1))).length) := b4.cell;have q5 : W.cell? ⟨w.heap.size + 1 + 1 + 1 + 1 + 1, 0, none⟩ = some (.int .i64 ((kM d (ys.map (·.1))).countP so)) := b5.cell;have g4 : W.frozen? ⟨w.heap.size + 1 + 1 + 1 + 1, 0, none⟩ = false := b4.frozen;have g5 : W.frozen? ⟨w.heap.size + 1 + 1 + 1 + 1 + 1, 0, none⟩ = false := b5.frozen;rw [hys] at q4 q5;rw [← HR.out] at q4 q5;obtain ⟨n1, hn1⟩ : ∃ n1, (cellsD d ⟨i, p⟩ ⟨j, q⟩).length = n1 := ⟨_, rfl⟩;obtain ⟨n2, hn2⟩ : ∃ n2, (cellsD d ⟨i, p⟩ ⟨j, q⟩).countP so = n2 := ⟨_, rfl⟩;rw [hn1] at q4;rw [hn2] at q5
   gi_wp2
   gi_region
   gi_wp2
   obtain ⟨W9, hW9⟩ : ∃ W9, ((W.setCell ⟨w.heap.size + 1 + 1 + 1 + 1, 0, none⟩ (.int .i64 n1)).setCell ⟨w.heap.size + 1 + 1 + 1 + 1 + 1, 0, none⟩ (.int .i64 n2)).drew = W9 := ⟨_, rfl⟩;have z0 : w3.heap.size = w3.heap.size := rfl
   have hK2 : W9.heap[D]? = some (.deferred (some [])) := by
    rw [← hW9]
    show ((W.setCell _ _).setCell _ _).heap[D]? = _
    rw [Below.heap_setCell _ _ _ _ jB, Below.heap_setCell _ _ _ _ jB];exact hK
   have r1 : W9.cell? ⟨w.heap.size + 1 + 1 + 1 + 1, 0, none⟩ = some (.int .i64 n1) := hW9 ▸ (kE qC).trans (xY q4);have r2 : W9.cell? ⟨w.heap.size + 1 + 1 + 1 + 1 + 1, 0, none⟩ = some (.int .i64 n2) := hW9 ▸ xY ((kE qC).trans q5);have hB9 : Below w.heap.size w W9 := hW9 ▸ ((hb.setCell zCj _).setCell zDr _).drew;rw [hW9];refine ⟨by simp, .inl ⟨_, _, rfl, run_takeDeferred hK2, ?_⟩⟩;refine ⟨_, zDI rfl _ _ ⟨w.heap.size + 1 + 1 + 1 + 1, 0, none⟩ ⟨w.heap.size + 1 + 1 + 1 + 1 + 1, 0, none⟩ n1 n2 rfl rfl ((World.cell?_of_block (World.putObj_heap_other jB)).trans r1) ((World.cell?_of_block (World.putObj_heap_other jB)).trans r2), by rw [hn1, hn2], hB9.trans (belowK_b (w := w) (zC _) W9 D _ _ qC hK2 rfl rfl)⟩
  case stop =>
   rintro D c pre W _ _ h _;exact h.elim
end Go.Proofs.YtjgeadoncanheaaGreatDoor
namespace Go.Proofs.YtjgeadoncanheaaGreatDoor
open Go.RowKit
open Go.Proofs.Qw
open _root_.Go.Lib renaming hid → zA
open _root_.Nat renaming le_refl → zC
open _root_.Array renaming getElem?_eq_some_iff → zL
open _root_.Go.Proofs.Tryz renaming prog → zV
theorem zIM (x : Cel) (w : World) : Calls zV 242 #[celV x] w fun e w' => e = .returned (.bool false) ∧ Below w.heap.size w w' := by
 unfold celV;go_enter Tryz.func242, Tryz.ntmps242;go_wp2_with fail;go_ret;exact ⟨rfl, (Below.refl _ _).alloc (zC _) _⟩
theorem zKx (B : Nat) (b : Int) (x : Cel) (w : World) (h : w.heap[B]? = some (.cells #[.int .i64 b] 3)) :
  Calls zV 95 #[celV x, .pointer (some ⟨B, 0, none⟩)] w fun e w' => e = .returned (.bool (bits .and .i64 x.bits b == b)) ∧ Below w.heap.size w w' := by
 have hlt := (zL.1 h).1;obtain ⟨p, f⟩ := blk h;have p2 : ∀ ob, (w.alloc ob).cell? ⟨B, 0, none⟩ = some (.int .i64 b) := fun ob => (World.cell?_of_block (heap_alloc_old _ _ hlt)).trans (p 0);have ne : ¬ B = w.heap.size := by omega
 unfold celV;go_enter Tryz.func95, Tryz.ntmps95;go_wp2_with fail;go_ret;exact ⟨rfl, (Below.refl _ _).alloc (zC _) _⟩
theorem zJd (B : Nat) (b : Int) (x : Cel) (w : World) (h : w.heap[B]? = some (.cells #[.int .i64 b] 3)) :
  Calls zV 94 #[celV x, .pointer (some ⟨B, 0, none⟩)] w fun e w' => e = .returned (.bool (bits .and .i64 x.bits b != 0)) ∧ Below w.heap.size w w' := by
 have hlt := (zL.1 h).1;obtain ⟨p, f⟩ := blk h;have p2 : ∀ ob, (w.alloc ob).cell? ⟨B, 0, none⟩ = some (.int .i64 b) := fun ob => (World.cell?_of_block (heap_alloc_old _ _ hlt)).trans (p 0);have ne : ¬ B = w.heap.size := by omega
 unfold celV;go_enter Tryz.func94, Tryz.ntmps94;go_wp2_with fail;go_ret;exact ⟨rfl, (Below.refl _ _).alloc (zC _) _⟩
set_option maxRecDepth 100000 in
theorem zDX (v : Value) (d : Doc) (a b : Ps) (w : World) (S : Nat → Prop) (h : jE w S v d) (he : EnvT w) (hs : Small d) :
  Calls zV 224 #[v, posV a, posV b] w fun e w' => e = .returned (.int .i64 (cellsD d a b).length) ∧ Below w.heap.size w w' := by
 obtain ⟨W1, hW1, hB, hz, hA1, hA2⟩ := vA w (.int .i64 a.line) (.int .i64 a.col) (.int .i64 b.line) (.int .i64 b.col);have HC := zA (zCS v d a b 242 #[] (fun _ => false) W1 S (h.below (jW _) hB) (he.below hB) hs (enters_of Tryz.func242 zT rfl) (fun W x _ => by simpa using zIM x W));have HP : Hid (∀ p : Ps, posV p = .agg #[.int .i64 p.line, .int .i64 p.col]) := zA fun _ => rfl;have H1 := zA hB;have hs1 := hB.size;obtain ⟨p1, f1⟩ := blk hA1;obtain ⟨p2, f2⟩ := blk hA2;obtain ⟨va, vc, rfl⟩ := h.slice;clear h he hs hA1 hA2 hB
 generalize (cellsD d a b).length = n at *
 generalize (cellsD d a b).countP (fun _ => false) = m at *
 rw [HP.out a, HP.out b] at HC ⊢;go_enter Tryz.func224, Tryz.ntmps224;go_wp2_with (go_at_call 93; refine HC.out.mono ?_; rintro e w2 ⟨rfl, hb2⟩);go_ret;exact ⟨rfl, H1.out.trans (hb2.mono hs1)⟩
theorem zFm (w : World) (a b c d e : Value) : ∃ W1, ((w.alloc (.cells #[a, b] 24)).alloc (.cells #[c, d] 24)).alloc (.cells #[e] 3) = W1 ∧ Below w.heap.size w W1 ∧ w.heap.size + 3 = W1.heap.size ∧
  W1.heap[w.heap.size]? = some (.cells #[a, b] 24) ∧ W1.heap[w.heap.size + 1]? = some (.cells #[c, d] 24) ∧ W1.heap[w.heap.size + 2]? = some (.cells #[e] 3) :=
 ⟨_, rfl, (((Below.refl _ _).alloc (zC _) _).alloc qE _).alloc jB _, by simp, jH _ _ (jH _ _ (jD _ _ rfl)), jH _ _ (jD _ _ qE), jD _ _ qE⟩
set_option maxRecDepth 100000 in
theorem zEM (v : Value) (d : Doc) (a b : Ps) (t : Int) (w : World) (S : Nat → Prop) (SOF : Cel → Bool) (hso : SOF = (fun x => bits .and .i64 x.bits t == t)) (h : jE w S v d) (he : EnvT w) (hs : Small d) :
  Calls zV 52 #[v, posV a, posV b, .int .i64 t] w fun e w' => e = .returned (.bool (decide (0 < (cellsD d a b).length) && decide ((cellsD d a b).countP SOF = (cellsD d a b).length))) ∧ Below w.heap.size w w' := by
 obtain ⟨W1, hW1, hB, hz, hA1, hA2, hA3⟩ := zFm w (.int .i64 a.line) (.int .i64 a.col) (.int .i64 b.line) (.int .i64 b.col) (.int .i64 t);have HC := zA (zCS v d a b 95 #[.pointer (some ⟨w.heap.size + 2, 0, none⟩)] SOF W1 S (h.below (jW _) hB) (he.below hB) hs (enters_of Tryz.func95 zT rfl) (fun W x hW => by subst hso; simpa using zKx _ t x W (jG hW hA3)));have HP : Hid (∀ p : Ps, posV p = .agg #[.int .i64 p.line, .int .i64 p.col]) := zA fun _ => rfl;have H1 := zA hB;have hs1 := hB.size;obtain ⟨p1, f1⟩ := blk hA1;obtain ⟨p2, f2⟩ := blk hA2;obtain ⟨va, vc, rfl⟩ := h.slice;clear h he hs hA1 hA2 hA3 hB hso
 generalize (cellsD d a b).length = n at *
 generalize (cellsD d a b).countP SOF = m at *
 rw [HP.out a, HP.out b] at HC ⊢;go_enter Tryz.func52, Tryz.ntmps52;go_wp2_with (go_at_call 93; refine HC.out.mono ?_; rintro e w2 ⟨rfl, hb2⟩)
 all_goals
  go_ret;refine ⟨?_, H1.out.trans (hb2.mono hs1)⟩
  first
   | rfl
   | (show Ending.returned (Value.bool _) = Ending.returned (Value.bool _)
      refine congrArg (fun b => Ending.returned (Value.bool b)) ?_;rw [Bool.eq_iff_iff];simp only [beq_iff_eq, Bool.and_eq_true, decide_eq_true_eq, Bool.false_eq_true, false_iff, not_and]
      omega)
set_option maxRecDepth 100000 in
theorem zEj (v : Value) (d : Doc) (a b : Ps) (t : Int) (w : World) (S : Nat → Prop) (SOF : Cel → Bool) (hso : SOF = (fun x => bits .and .i64 x.bits t != 0)) (h : jE w S v d) (he : EnvT w) (hs : Small d) :
  Calls zV 51 #[v, posV a, posV b, .int .i64 t] w fun e w' => e = .returned (.bool (decide (0 < (cellsD d a b).countP SOF))) ∧ Below w.heap.size w w' := by
 obtain ⟨W1, hW1, hB, hz, hA1, hA2, hA3⟩ := zFm w (.int .i64 a.line) (.int .i64 a.col) (.int .i64 b.line) (.int .i64 b.col) (.int .i64 t);have HC := zA (zCS v d a b 94 #[.pointer (some ⟨w.heap.size + 2, 0, none⟩)] SOF W1 S (h.below (jW _) hB) (he.below hB) hs (enters_of Tryz.func94 zT rfl) (fun W x hW => by subst hso; simpa using zJd _ t x W (jG hW hA3)));have HP : Hid (∀ p : Ps, posV p = .agg #[.int .i64 p.line, .int .i64 p.col]) := zA fun _ => rfl;have H1 := zA hB;have hs1 := hB.size;obtain ⟨p1, f1⟩ := blk hA1;obtain ⟨p2, f2⟩ := blk hA2;obtain ⟨va, vc, rfl⟩ := h.slice;clear h he hs hA1 hA2 hA3 hB hso
 generalize (cellsD d a b).length = n at *
 generalize (cellsD d a b).countP SOF = m at *
 rw [HP.out a, HP.out b] at HC ⊢;go_enter Tryz.func51, Tryz.ntmps51;go_wp2_with (go_at_call 93; refine HC.out.mono ?_; rintro e w2 ⟨rfl, hb2⟩)
 all_goals
  go_ret;refine ⟨?_, H1.out.trans (hb2.mono hs1)⟩
  first
   | rfl
   | (show Ending.returned (Value.bool _) = Ending.returned (Value.bool _)
      refine congrArg (fun b => Ending.returned (Value.bool b)) ?_;rw [Bool.eq_iff_iff];simp only [beq_iff_eq, Bool.and_eq_true, decide_eq_true_eq, Bool.false_eq_true, false_iff, not_and]
      omega)
end Go.Proofs.YtjgeadoncanheaaGreatDoor
namespace Go.Proofs.YtjgeadoncanheaaGreatDoor
open Go.RowKit
open Go.Proofs.Qw
attribute [local go_sem ↓] Go.wp_at_zero Go.wp_at_succ
theorem zJY (a b c : Int) (w : World) :
  Calls Tryz.prog 228 #[.int .i64 a, .int .i64 b, .int .i64 c] w fun e w' => e = .returned (.int .i64 (bits .or .i64 (bits .andNot .i64 a c) b)) ∧ w = w' := by
 go_enter Tryz.func228, Tryz.ntmps228;go_wp2;go_ret;exact ⟨rfl, rfl⟩
def yU (s c : Int) (x : Cel) : Cel := { x with bits := bits .or .i64 (bits .andNot .i64 x.bits (bits .and .i64 c 15)) (bits .and .i64 s 15) }
def yD (h : List UInt8) (x : Cel) : Cel := { x with href := h }
set_option maxRecDepth 100000 in
theorem zHo (B o b1 b2 : Nat) (s c : Int) (x : Cel) (w : World) (_h0 : w.cell? ⟨B, o, none⟩ = some (.int .i32 x.r)) (h1 : w.cell? ⟨B, o + 1, none⟩ = some (.int .i64 x.bits)) (hf : w.frozen? ⟨B, o + 1, none⟩ = false)
  (hs : w.cell? ⟨b1, 0, none⟩ = some (.int .i64 s)) (hc : w.cell? ⟨b2, 0, none⟩ = some (.int .i64 c)) :
  Calls Tryz.prog 227 #[.pointer (some ⟨B, o, none⟩), .pointer (some ⟨b1, 0, none⟩), .pointer (some ⟨b2, 0, none⟩)] w fun e w' => (∃ u, e = .returned u) ∧ ∃ n, w' = (w.setCell ⟨B, o + 1, none⟩ (.int .i64 (yU s c x).bits)).drewN n := by
 go_enter Tryz.func227, Tryz.ntmps227;go_wp2_with fail;go_still_tail 12, zT
 still_call ((zJY _ _ _ _).mono fun _ _ h => ⟨h.1, h.2.symm⟩)
 repeat still_step
 try refine wpStill_nil ?_
 change wpList _ _ _ _ _ w.drew
 go_wp2_with fail;go_returns;exact ⟨⟨_, rfl⟩, 1, rfl⟩
set_option maxRecDepth 100000 in
theorem zGH (B o b1 : Nat) (h : List UInt8) (x : Cel) (w : World) (h2 : w.cell? ⟨B, o + 2, none⟩ = some (.string ⟨x.href.toArray⟩)) (hf : w.frozen? ⟨B, o + 2, none⟩ = false) (hs : w.cell? ⟨b1, 0, none⟩ = some (.string ⟨h.toArray⟩)) :
  Calls Tryz.prog 226 #[.pointer (some ⟨B, o, none⟩), .pointer (some ⟨b1, 0, none⟩)] w fun e w' => (∃ u, e = .returned u) ∧ ∃ n, w' = (w.setCell ⟨B, o + 2, none⟩ (.string ⟨(yD h x).href.toArray⟩)).drewN n := by
 go_enter Tryz.func226, Tryz.ntmps226;go_wp2_with fail;go_returns
 first | exact ⟨⟨_, rfl⟩, 0, rfl⟩ | exact ⟨⟨_, rfl⟩, 1, rfl⟩
def vY (n : Nat) (i j : Int) : Bool := decide (0 ≤ i) && (decide (i ≤ j) && decide (j ≤ n))
theorem zCC (v : Value) (d : List Cel) (i j : Int) (w : World) (S : Nat → Prop) (own : Bool) (h : jC own w S v d) :
  Calls Tryz.prog 213 #[v, .int .i64 i, .int .i64 j] w fun e w' => e = .returned (.bool (vY d.length i j)) ∧ w' = w := by
 obtain ⟨a, c, rfl⟩ := h.slice;clear h;have HS : Hid (vY d.length i j = (decide (0 ≤ i) && (decide (i ≤ j) && decide (j ≤ (d.length : Int))))) := Lib.hid rfl;go_enter Tryz.func213, Tryz.ntmps213;go_wp2_with fail
 all_goals
  go_ret;refine ⟨?_, rfl⟩;rw [HS.out];refine congrArg Ending.returned (congrArg Value.bool ?_);clear HS;simp (config := { failIfUnchanged := false }) [*]
 all_goals try omega
end Go.Proofs.YtjgeadoncanheaaGreatDoor
namespace Go.Proofs.Qw
def kU {α : Type} (F : α → α) (i k : Nat) (d : List α) : List α := d.mapIdx fun q x => if i ≤ q ∧ q < k then F x else x
theorem zBh {α : Type} (F : α → α) (i k : Nat) (d : List α) (q : Nat) : (kU F i k d)[q]? = (d[q]?).map fun x => if i ≤ q ∧ q < k then F x else x := by
 unfold kU; rw [List.getElem?_mapIdx]
theorem zBF {α : Type} (F : α → α) (i k : Nat) (d : List α) : (kU F i k d).length = d.length := by unfold kU; simp
theorem zIy {α : Type} (F : α → α) (i : Nat) (d : List α) : kU F i i d = d := by
 apply List.ext_getElem?
 intro q;rw [zBh];cases d[q]? with
 | none => rfl
 | some x => simp only [Option.map_some]; rw [if_neg qC]
theorem zIx {α : Type} (F : α → α) {i k : Nat} {d : List α} {x : α} (hik : i ≤ k) (hx : d[k]? = some x) : (kU F i k d).set k (F x) = kU F i (k + 1) d := by
 apply List.ext_getElem?
 intro q;have hk := (List.getElem?_eq_some_iff.1 hx).1
 by_cases e : k = q
 ·subst e
  rw [List.getElem?_set_self (by rw [zBF]; exact hk), zBh, hx];simp [hik]
 ·rw [List.getElem?_set_ne e, zBh, zBh]
  cases d[q]? with
  | none => rfl
  | some y =>
   simp only [Option.map_some]
   by_cases h : i ≤ q ∧ q < k
   ·rw [if_pos h, if_pos ⟨h.1, by omega⟩]
   ·rw [if_neg h, if_neg qC]
theorem zKc {α : Type} (F : α → α) {i k : Nat} {d : List α} {x : α} (hx : d[k]? = some x) : (kU F i k d)[k]? = some x := by
 rw [zBh, hx]; simp
end Go.Proofs.Qw
namespace Go.Proofs.YtjgeadoncanheaaGreatDoor
open Go.RowKit
open Go.Proofs.Qw
open _root_.Go.Lib renaming hid → zA
open _root_.Nat renaming le_refl → zC
open _root_.Go.RowKit.Below renaming refl → zE
open _root_.Go.Proofs.Tryz renaming prog → zV
open _root_.Go.Proofs.Qw renaming jV → qB
def CellsSaid (d : List Cel) (err : Int) (w : World) (e : Ending) (w' : World) : Prop := ∃ v', e = .returned (.tuple #[v', .int .i64 err]) ∧ jC true w' (fun b => w.heap.size ≤ b) v' d ∧ Below w.heap.size w w'
def kV (F : Cel → Cel) (d : List Cel) (i j : Int) : List Cel × Int := if vY d.length i j = true then (kU F i.toNat j.toNat d, 0) else ([], 1)
set_option maxRecDepth 100000 in
theorem zDN (v : Value) (d : List Cel) (i j : Int) (g : Nat) (lb : Array Value) (F : Cel → Cel) (f : Nat) (val : Cel → Value) (w : World) (S : Nat → Prop) (own : Bool) (h : jC own w S v d) (hs : d.length ≤ 1000000)
  (eg : ∀ args w, (callFunc g args).run zV w = .ok (.enter g args) w) (hf : f < 3) (hF : ∀ x, xA (F x) = (xA x).set f (val x))
  (hg : ∀ W B o x, Below w.heap.size w W → w.heap.size ≤ B → (∀ p u, (xA x)[p]? = some u → W.cell? ⟨B, o + p, none⟩ = some u ∧ W.frozen? ⟨B, o + p, none⟩ = false) → Calls zV g (#[.pointer (some ⟨B, o, none⟩)] ++ lb) W fun e w' => (∃ u, e = .returned u) ∧ ∃ n, w' = (W.setCell ⟨B, o + f, none⟩ (val x)).drewN n) :
  Calls zV 225 #[v, .int .i64 i, .int .i64 j, .func (.func g) #[] lb] w (CellsSaid (kV F d i j).1 (kV F d i j).2 w) := by
 have HC1 := zA (zCC v d i j w S own h);have HC2 := zA (zCB v d own w w S h (zE _ _) hs);have HG := zA hg;obtain ⟨a, c, rfl⟩ := h.slice;clear h hg;cases hsp : vY d.length i j
 ·have HR : Hid (kV F d i j = ([], 1)) := zA (by unfold kV; rw [hsp]; rfl)
  rw [hsp] at HC1;clear hsp;go_enter Tryz.func225, Tryz.ntmps225;go_wp2_with (go_at_call 213; refine HC1.out.mono ?_; rintro e w2 ⟨rfl, rfl⟩);go_ret2;unfold CellsSaid;rw [HR.out];exact ⟨_, rfl, SliceR.nil _ _ _ _ _ _, zE _ _⟩
 ·have hsp2 := hsp
  unfold vY at hsp2;simp only [Bool.and_eq_true, decide_eq_true_eq] at hsp2;obtain ⟨i, rfl⟩ := Int.eq_ofNat_of_zero_le hsp2.1;obtain ⟨j, rfl⟩ := Int.eq_ofNat_of_zero_le (show 0 ≤ j by omega);have hij : i ≤ j := by omega
  have hjd : j ≤ d.length := by omega
  have HR : Hid (kV F d i j = (kU F i j d, 0)) := zA (by unfold kV; rw [hsp]; rfl);rw [hsp] at HC1;clear hsp hsp2;go_enter Tryz.func225, Tryz.ntmps225;go_wp2_with (first | (go_at_call 213; refine HC1.out.mono ?_; rintro e w2 ⟨rfl, rfl⟩) | (go_at_call 214; refine HC2.out.mono ?_; rintro e w3 ⟨v3, rfl, hv3, hb3⟩; obtain ⟨a3, c3, rfl⟩ := hv3.slice));have HV := zA hv3;have HB := zA hb3;have hcm := hv3.len.2;unfold maxLen at hcm;clear hv3 hb3;go_loopw [11] (fun q wr => ∃ k : Nat, i ≤ k ∧ k ≤ j ∧ q = .int .i64 k ∧ jC true wr (fun b => w2.heap.size ≤ b) (.slice a3 d.length c3) (kU F i k d) ∧ Below w2.heap.size w2 wr) (fun q _ => j - (intOf q).toNat)
  case atStart => exact ⟨i, zC _, hij, rfl, by rw [zIy]; exact HV.out, HB.out⟩
  case round =>
   obtain ⟨k, hk1, hk2, rfl, hO, hb⟩ := hrel
   by_cases hlt : k < j
   ·obtain ⟨x, hx, _⟩ := jO d k qC
    have hxk := zKc F (i := i) hx;obtain ⟨b, o, cs, rfl, hbb, hgg, hsz⟩ := hO.cellAt (i := k) (by rw [zBF]; omega);have hbb : w2.heap.size ≤ b := hbb
    have hcells : ∀ p u, (xA x)[p]? = some u → wr.cell? ⟨b, o + k * 3 + p, none⟩ = some u ∧ wr.frozen? ⟨b, o + k * 3 + p, none⟩ = false := by
     obtain ⟨a', c', he, _, _, hxx⟩ := hO.shape
     injection he with he1 _ _
     subst he1;obtain ⟨b', o', vs, he2, _, _, _, hvs, hcc⟩ := hxx k x hxk;cases he2;cases hvs;exact fun p u hu => ⟨hcc p u hu, xF hgg⟩
    have HC := zA (HG.out wr b (o + k * 3) x hb hbb hcells);have HS := zA (SliceR.set1 uF.tag hO hxk hf (val x) (x' := F x) (fun vs _ h => by rw [show vs = xA x from h]; exact (hF x).symm));have HM := zA (zIx F hk1 hx);have i0 : (0 : Int) ≤ (k : Int) := Int.natCast_nonneg _;have i1 : (k : Int) < (d.length : Int) := by omega
    clear hO hx hxk hgg hcells;go_wp2_with (go_at_fn g; refine HC.out.mono ?_; rintro e w4 ⟨⟨u, rfl⟩, nn, rfl⟩);go_roundw
    case rel => exact ⟨k + 1, by omega, hlt, by go_num, SliceR.below (qB _) (by rw [← HM.out]; exact HS.out) (jN (zE _ _)), jN (hb.setCell hbb _)⟩
    case measure => simp [intOf]; omega
   ·obtain rfl : k = j := by omega
    have HO := zA hO;have HBB := zA hb;clear hO hb;go_wp2_with fail;go_ret2;unfold CellsSaid;rw [HR.out];exact ⟨_, rfl, HO.out, HBB.out⟩
theorem CellsSaid.from {d : List Cel} {err : Int} {w W : World} {e : Ending} {w' : World} (h : CellsSaid d err W e w') (hb : Below w.heap.size w W) : CellsSaid d err w e w' := by
 obtain ⟨v', h1, h2, h3⟩ := h;exact ⟨v', h1, SliceR.stable (qB _) h2 (Keeps.refl _ _) (fun b h _ => Nat.le_trans hb.size h), jF hb h3⟩
set_option maxRecDepth 100000 in
theorem zHn (v : Value) (d : List Cel) (i j s c : Int) (w : World) (S : Nat → Prop) (own : Bool) (h : jC own w S v d) (hs : d.length ≤ 1000000) :
  Calls zV 191 #[v, .int .i64 i, .int .i64 j, .int .i64 s, .int .i64 c] w (CellsSaid (kV (yU s c) d i j).1 (kV (yU s c) d i j).2 w) := by
 obtain ⟨W1, hW1⟩ : ∃ W1, (w.alloc (.cells #[.int .i64 s] 3)).alloc (.cells #[.int .i64 c] 3) = W1 := ⟨_, rfl⟩;have hB : Below w.heap.size w W1 := hW1 ▸ ((zE _ _).alloc (zC _) _).alloc qE _;have hz : w.heap.size + 2 = W1.heap.size := by rw [← hW1]; simp
 have hA1 : W1.heap[w.heap.size]? = some (.cells #[.int .i64 s] 3) := hW1 ▸ jH _ _ (jD _ _ rfl);have hA2 : W1.heap[w.heap.size + 1]? = some (.cells #[.int .i64 c] 3) := hW1 ▸ jD _ _ qE
 have HC := zA (zDN v d i j 227 #[.pointer (some ⟨w.heap.size, 0, none⟩), .pointer (some ⟨w.heap.size + 1, 0, none⟩)] (yU s c) 1 (fun x => .int .i64 (yU s c x).bits) W1 S own (h.below (qB _) hB) hs
  (enters_of Tryz.func227 zT rfl) qV (fun x => rfl)
  (fun W B o x hW hBB hx => zHo B o w.heap.size (w.heap.size + 1) s c x W (by have := (hx 0 _ rfl).1; exact this) (hx 1 _ rfl).1 (hx 1 _ rfl).2 (jR (jG hW hA1)) (jR (jG hW hA2))))
 have H1 := zA hB;obtain ⟨a, cc, rfl⟩ := h.slice
 generalize kV (yU s c) d i j = r at *
 clear h hA1 hA2 hB hz;go_enter Tryz.func191, Tryz.ntmps191;go_wp2_with (go_at_call 225; refine HC.out.mono ?_; intro e w2 hsaid; have hsaid := CellsSaid.from hsaid H1.out; obtain ⟨v', rfl, hv', hb'⟩ := hsaid);go_ret2;exact ⟨_, rfl, hv', hb'⟩
set_option maxRecDepth 100000 in
theorem zFX (v : Value) (d : List Cel) (i j : Int) (hr : List UInt8) (b1 : Nat) (w : World) (S : Nat → Prop) (own : Bool) (h : jC own w S v d) (hs : d.length ≤ 1000000) (hA : w.heap[b1]? = some (.cells #[.string ⟨hr.toArray⟩] 9)) :
  Calls zV 225 #[v, .int .i64 i, .int .i64 j, .func (.func 226) #[] #[.pointer (some ⟨b1, 0, none⟩)]] w (CellsSaid (kV (yD hr) d i j).1 (kV (yD hr) d i j).2 w) :=
 zDN v d i j 226 #[.pointer (some ⟨b1, 0, none⟩)] (yD hr) 2 (fun x => .string ⟨(yD hr x).href.toArray⟩) w S own h hs
  (enters_of Tryz.func226 zT rfl) qV (fun x => rfl)
  (fun W B o x hW hBB hx => zGH B o b1 hr x W (hx 2 _ rfl).1 (hx 2 _ rfl).2 (jR (jG hW hA)))
def uM (hr : List UInt8) (d : List Cel) (i j : Int) : List Cel × Int := if xP hr = true then kV (yD hr) d i j else ([], 1)
set_option maxRecDepth 100000 in
theorem zGG (v : Value) (d : List Cel) (i j : Int) (hr : List UInt8) (w : World) (S : Nat → Prop) (own : Bool) (h : jC own w S v d) (hs : d.length ≤ 1000000) (he : EnvT w) (hh : hr.length ≤ 1000000) :
  Calls zV 189 #[v, .int .i64 i, .int .i64 j, .string ⟨hr.toArray⟩] w (CellsSaid (uM hr d i j).1 (uM hr d i j).2 w) := by
 obtain ⟨W1, hW1⟩ : ∃ W1, w.alloc (.cells #[.string ⟨hr.toArray⟩] 9) = W1 := ⟨_, rfl⟩;have hB : Below w.heap.size w W1 := hW1 ▸ (zE _ _).alloc (zC _) _;have hA : W1.heap[w.heap.size]? = some (.cells #[.string ⟨hr.toArray⟩] 9) := hW1 ▸ jD _ _ rfl;have HC1 : Hid (Calls zV 207 #[.string ⟨hr.toArray⟩] W1 fun e w' => e = .returned (.bool (xP hr)) ∧ Below W1.heap.size W1 w') := zA (zFs ⟨hr.toArray⟩ W1 (he.below hB) zDv)
 have HC : Hid (∀ W, Below W1.heap.size W1 W → Calls zV 225 #[v, .int .i64 i, .int .i64 j, .func (.func 226) #[] #[.pointer (some ⟨w.heap.size, 0, none⟩)]] W (CellsSaid (kV (yD hr) d i j).1 (kV (yD hr) d i j).2 W)) :=
  zA fun W hW => zFX v d i j hr w.heap.size W S own ((h.below (qB _) hB).below (qB _) hW) hs (jG hW hA)
 have HL : Hid (uM hr d i j = if xP hr = true then kV (yD hr) d i j else ([], 1)) := zA rfl;have H1 := zA hB;have hs1 := hB.size;obtain ⟨a, cc, rfl⟩ := h.slice;obtain ⟨p, f⟩ := blk hA
 generalize kV (yD hr) d i j = r at *
 generalize xP hr = lk at *
 clear h he hs hh hA hB;cases lk
 ·have HR : Hid (uM hr d i j = ([], 1)) := zA HL.out
  clear HL;go_enter Tryz.func189, Tryz.ntmps189;go_wp2_with (go_at_call 207; refine HC1.out.mono ?_; rintro e w2 ⟨rfl, hb2⟩);go_ret2;unfold CellsSaid;rw [HR.out];exact ⟨_, rfl, SliceR.nil _ _ _ _ _ _, H1.out.trans (hb2.mono hs1)⟩
 ·have HR : Hid (uM hr d i j = r) := zA HL.out
  clear HL;go_enter Tryz.func189, Tryz.ntmps189;go_wp2_with (first | (go_at_call 207; refine HC1.out.mono ?_; rintro e w2 ⟨rfl, hb2⟩) | (go_at_call 225; refine (HC.out _ hb2).mono ?_; intro e w3 hsaid; have hsaid := CellsSaid.from hsaid (H1.out.trans (hb2.mono hs1)); obtain ⟨v', rfl, hv', hb'⟩ := hsaid));go_ret2;rw [HR.out];exact ⟨_, rfl, hv', hb'⟩
end Go.Proofs.YtjgeadoncanheaaGreatDoor
namespace Go.Proofs.Qw
open Go.RowKit Go.Proofs.YtjgeadoncanheaaGreatDoor
def setRow (C : List Cel → Nat → Nat → List Cel) (D : Doc) (x : Nat × Nat × Nat) : Doc := D.set x.1 { (D.getD x.1 default) with cells := C (D.getD x.1 default).cells x.2.1 x.2.2 }
def vT (C : List Cel → Nat → Nat → List Cel) (D : Doc) (xs : List (Nat × Nat × Nat)) : Doc := xs.foldl (setRow C) D
theorem zGT (C : List Cel → Nat → Nat → List Cel) (D : Doc) (xs : List (Nat × Nat × Nat)) (x : Nat × Nat × Nat) : vT C D (xs ++ [x]) = setRow C (vT C D xs) x := by simp [vT]
def Alike (D E : Doc) : Prop := D.length = E.length ∧ ∀ (k : Nat) (l : Lin), D[k]? = some l → ∃ m, E[k]? = some m ∧ m.cells.length = l.cells.length
theorem Alike.refl (D : Doc) : Alike D D := ⟨rfl, fun _ l h => ⟨l, h, rfl⟩⟩
theorem Alike.trans {D E F : Doc} (h : Alike D E) (k : Alike E F) : Alike D F := ⟨h.1.trans k.1, fun i l hl => by
 obtain ⟨m, h1, h2⟩ := h.2 i l hl;obtain ⟨n, h3, h4⟩ := k.2 i m h1;exact ⟨n, h3, h4.trans h2⟩⟩
theorem zEV {C : List Cel → Nat → Nat → List Cel} {D : Doc} {x : Nat × Nat × Nat} {l : Lin} (h : D[x.1]? = some l) : setRow C D x = D.set x.1 { l with cells := C l.cells x.2.1 x.2.2 } := by
 unfold setRow;simp [List.getD, h]
theorem zGU {C : List Cel → Nat → Nat → List Cel} (hC : ∀ c i j, (C c i j).length = c.length) (D : Doc) (x : Nat × Nat × Nat) : Alike D (setRow C D x) := by
 refine ⟨by simp [setRow], fun k l hl => ?_⟩
 by_cases e : x.1 = k
 ·subst e
  rw [zEV hl];refine ⟨_, List.getElem?_set_self (List.getElem?_eq_some_iff.1 hl).1, hC _ _ _⟩
 ·refine ⟨l, ?_, rfl⟩
  unfold setRow;rw [List.getElem?_set_ne e];exact hl
theorem zDG {C : List Cel → Nat → Nat → List Cel} (hC : ∀ c i j, (C c i j).length = c.length) : ∀ (xs : List (Nat × Nat × Nat)) (D : Doc), Alike D (vT C D xs)
 | [], D => Alike.refl D
 | x :: xs, D => (zGU hC D x).trans (zDG hC xs (setRow C D x))
theorem SliceR.avoidO {α : Type} {s : TypeId} {k : Nat} {enc : α → List Value} {w : World} {S : Nat → Prop} {v : Value} {xs : List α} (h : SliceR s k (rdOf enc) true w S v xs) {b : Nat} {o : Obj} (hb : w.heap[b]? = some o) (ho : o.isCells = false) : SliceR s k (rdOf enc) true w (fun d => S d ∧ d ≠ b) v xs := by
 obtain ⟨a, c, e, hc, hm, hx⟩ := h;refine ⟨a, c, e, hc, hm, ?_⟩;rcases hx with h1 | ⟨d, o', e, hd, hz, hf, he⟩
 ·exact .inl h1
 ·obtain ⟨cs2, g1, g2⟩ := hf rfl
  exact .inr ⟨d, o', e, ⟨hd, fun e2 => by subst e2; rw [hb] at g1; cases g1; cases ho⟩, hz, hf, he⟩
theorem DocR.avoidO {w : World} {S : Nat → Prop} {v : Value} {xs : List Lin} (h : DocR true w S v xs) {b : Nat} {o : Obj} (hb : w.heap[b]? = some o) (ho : o.isCells = false) : DocR true w (fun d => S d ∧ d ≠ b) v xs := by
 obtain ⟨a, c', e, hc, hm, hx⟩ := h;refine ⟨a, c', e, hc, hm, ?_⟩;rcases hx with h1 | ⟨d, o', e2, hd, hz, hf, he⟩
 ·exact .inl h1
 ·obtain ⟨cs2, g1, g2⟩ := hf rfl
  refine .inr ⟨d, o', e2, ⟨hd, fun e3 => by subst e3; rw [hb] at g1; cases g1; cases ho⟩, hz, hf, fun i x hi => ?_⟩;obtain ⟨vs, r1, ⟨p, q, r2, r3, r4⟩, r5⟩ := he i x hi;exact ⟨vs, r1, ⟨p, q, r2, r3.avoidO hb ho, r4.avoidO hb ho⟩, r5⟩
theorem uZ {β : Type} (B : Nat) (S : Nat → Prop) (v : Value) (f : β → Doc) : OwnFrom B (fun (s : β) (W : World) => DocR true W S v (f s)) := fun s X Y row hs hg hr => by
 cases row with
 | none => exact SliceR.stable (jW true) hs ⟨hg.size, fun b _ hz => hg.block b hz qE⟩ (fun _ h _ => h)
 | some k =>
  obtain ⟨_, o, ho, hc⟩ := hr k rfl;exact SliceR.stable (jW true) (hs.avoidO ho hc) ⟨hg.size, fun b hb hz => hg.block b hz (by intro e; cases e; exact hb.2 rfl)⟩ (fun _ h _ => h.1)
end Go.Proofs.Qw
namespace Go.Proofs.YtjgeadoncanheaaGreatDoor
open Go.RowKit
open Go.Proofs.Qw
attribute [local go_sem] Oper.semAt_some
open _root_.Go.Lib renaming hid → zA
open _root_.And renaming intro → zB
open _root_.Nat renaming le_refl → zC
open _root_.List renaming getElem?_eq_some_iff → zK
open _root_.Go.AllReadyH renaming cons → zN, nil → zO
open _root_.Go renaming wpAnyH_take → zP, wpAnyH_ready → zQ
open _root_.Go.Act renaming put → zU
open _root_.Go.Proofs.Tryz renaming prog → zV
open _root_.Go.Proofs.YtjgeadoncanheaaGreatDoor renaming jG → zX
open _root_.Go.Proofs.Qw renaming jW → zZ
def yR (C : List Cel → Nat → Nat → List Cel) (d : Doc) (a b : Ps) : Doc × Int :=
 if kF d a b = true then (if cellsD d a b = [] then ([], 7) else (vT C d (kI d a.line.toNat a.col.toNat b.line.toNat b.col.toNat (b.line.toNat + 1)), 0)) else ([], 1)
def EI (C : List Cel → Nat → Nat → List Cel) (d : Doc) (v fv : Value) (w : World) (Bo n : Nat) (pre : List (RowX d)) (W : World) : Prop :=
 W.heap[Bo]? = some (.cells #[v] 22) ∧ W.heap[w.heap.size + 2]? = some (.cells #[fv] 168) ∧ DocR true W (fun b => w.heap.size ≤ b) v (vT C d (pre.map (·.1))) ∧ Below w.heap.size w W ∧ n ≤ W.heap.size
theorem zLn {C : List Cel → Nat → Nat → List Cel} {d : Doc} {v fv : Value} {w : World} {Bo n B : Nat} (hB : w.heap.size ≤ B) : OwnFrom B (EI C d v fv w Bo n) :=
 OwnFrom.and (kZ _ _ _ _) (OwnFrom.and (kZ _ _ _ _) (OwnFrom.and (uZ _ _ _ _) (OwnFrom.and (ownFrom_below (zC _) hB) (uA _ _))))
theorem zCD (w : World) (a b c d e : Value) (t : TypeId) : ∃ W1, ((w.alloc (.cells #[a, b] 24)).alloc (.cells #[c, d] 24)).alloc (.cells #[e] t) = W1 ∧ Below w.heap.size w W1 ∧ w.heap.size + 3 = W1.heap.size ∧
  W1.heap[w.heap.size]? = some (.cells #[a, b] 24) ∧ W1.heap[w.heap.size + 1]? = some (.cells #[c, d] 24) ∧ W1.heap[w.heap.size + 2]? = some (.cells #[e] t) :=
 ⟨_, rfl, (((Below.refl _ _).alloc (zC _) _).alloc qE _).alloc jB _, by simp, jH _ _ (jH _ _ (jD _ _ rfl)), jH _ _ (jD _ _ qE), jD _ _ qE⟩
theorem jP {w : World} {p : Addr} {u : Value} (h : w.cell? p = some u) : ∀ ob, (w.alloc ob).cell? p = some u := fun _ => (World.cell?_alloc_lt _ _ _ (World.block_lt_of_cell? w p h)).trans h
theorem zHY (v : Value) (d : Doc) (a b : Ps) (g : Nat) (lb : Array Value) (C : List Cel → Nat → Nat → List Cel) (w : World) (S : Nat → Prop) (h : jE w S v d) (he : EnvT w) (hs : Small d) (hc : cellsD d a b = []) :
  Calls zV 187 #[v, posV a, posV b, .func (.func g) #[] lb] w (DocSaid (yR C d a b) w) := by
 obtain ⟨W1, hW1, hB, hz, k0, k1, k2⟩ := zCD w (.int .i64 a.line) (.int .i64 a.col) (.int .i64 b.line) (.int .i64 b.col) (.func (.func g) #[] lb) 168;have HC1 := zA (zAk v d a b W1 S (h.below (zZ _) hB) (he.below hB) hs)
 have HC2 : Hid (∀ W, Below W1.heap.size W1 W → Calls zV 224 #[v, posV a, posV b] W fun e w' => e = .returned (.int .i64 0) ∧ Below W.heap.size W w') := zA fun W hW => by
  have := zDX v d a b W S ((h.below (zZ _) hB).below (zZ _) hW) ((he.below hB).below hW) hs;rw [hc] at this;exact this
 have HB : Hid (∀ W, Below W1.heap.size W1 W → W.heap[w.heap.size]? = some (.cells #[.int .i64 a.line, .int .i64 a.col] 24) ∧ W.heap[w.heap.size + 1]? = some (.cells #[.int .i64 b.line, .int .i64 b.col] 24)) := zA fun W hW => ⟨zX hW k0, zX hW k1⟩;have HP : Hid (∀ p : Ps, posV p = .agg #[.int .i64 p.line, .int .i64 p.col]) := zA fun _ => rfl;have HR : Hid (yR C d a b = if kF d a b = true then ([], 7) else ([], 1)) := zA (by unfold yR; rw [if_pos hc]);have H1 := zA hB;have hs1 := hB.size;obtain ⟨p1, f1⟩ := blk k0;obtain ⟨p2, f2⟩ := blk k1;obtain ⟨va, vc, rfl⟩ := h.slice
 generalize kF d a b = sp at *
 clear h he hs hc k0 k1 k2 hB;rw [HP.out a, HP.out b] at HC1 HC2 ⊢;cases sp
 ·have HR := zA HR.out
  go_enter Tryz.func187, Tryz.ntmps187;go_wp2_with (go_at_call 154; refine HC1.out.mono ?_; rintro e w2 ⟨rfl, hb2⟩);go_ret2;unfold DocSaid;rw [HR.out];exact ⟨_, rfl, SliceR.nil _ _ _ _ _ _, H1.out.trans (hb2.mono hs1)⟩
 ·have HR := zA HR.out
  go_enter Tryz.func187, Tryz.ntmps187;go_wp2_with (first | (go_at_call 154; refine HC1.out.mono ?_; rintro e w2 ⟨rfl, hb2⟩; obtain ⟨q1, g1⟩ := blk (HB.out _ hb2).1; obtain ⟨q2, g2⟩ := blk (HB.out _ hb2).2) | (go_at_call 224; refine (HC2.out _ hb2).mono ?_; rintro e w3 ⟨rfl, hb3⟩));go_ret2;unfold DocSaid;rw [HR.out];exact ⟨_, rfl, SliceR.nil _ _ _ _ _ _, H1.out.trans ((jF hb2 hb3).mono hs1)⟩
set_option maxRecDepth 200000 in
theorem zIJ (v : Value) (d : Doc) (a b : Ps) (g : Nat) (lb : Array Value) (C : List Cel → Nat → Nat → List Cel) (w : World) (S : Nat → Prop) (h : jE w S v d) (he : EnvT w) (hs : Small d) (hf : Fits d) (hC : ∀ c i j, (C c i j).length = c.length) (hc : cellsD d a b ≠ [])
  (eg : ∀ args w, (callFunc g args).run zV w = .ok (.enter g args) w)
  (hg : ∀ W v cs (i j : Nat), Below w.heap.size w W → jC true W (fun b => w.heap.size ≤ b) v cs → i ≤ j → j ≤ cs.length → cs.length ≤ 1000000 → Calls zV g (#[v, .int .i64 i, .int .i64 j] ++ lb) W (CellsSaid (C cs i j) 0 W)) :
  Calls zV 187 #[v, posV a, posV b, .func (.func g) #[] lb] w (DocSaid (yR C d a b) w) := by
 obtain ⟨W1, hW1, hB, hz, k0, k1, k2⟩ := zCD w (.int .i64 a.line) (.int .i64 a.col) (.int .i64 b.line) (.int .i64 b.col) (.func (.func g) #[] lb) 168
 have hsp : kF d a b = true := by
  cases hh : kF d a b
  ·exact absurd (by unfold cellsD; rw [hh]; rfl) hc
  ·rfl
 have HC1 := zA (zAk v d a b W1 S (h.below (zZ _) hB) (he.below hB) hs);rw [hsp] at HC1;obtain ⟨nn, hnn⟩ : ∃ nn, (cellsD d a b).length = nn := ⟨_, rfl⟩
 have hn0 : (((nn : Nat) : Int) == 0) = false := by
  have : 0 < (cellsD d a b).length := List.length_pos_iff.2 hc
  simp; omega
 have HC2 : Hid (∀ W, Below W1.heap.size W1 W → Calls zV 224 #[v, posV a, posV b] W fun e w' => e = .returned (.int .i64 nn) ∧ Below W.heap.size W w') := zA fun W hW => by
  have := zDX v d a b W S ((h.below (zZ _) hB).below (zZ _) hW) ((he.below hB).below hW) hs;rw [hnn] at this;exact this
 have HO : Hid (∀ W, Below W1.heap.size W1 W → Calls zV 167 #[v] W fun e w' => ∃ v', e = .returned v' ∧ DocR true w' (fun b => W.heap.size ≤ b) v' d ∧ Below W.heap.size W w') := zA fun W hW => zBf v d W W1 S (h.below (zZ _) hB) hW hf;have HB : Hid (∀ W, Below W1.heap.size W1 W → W.heap[w.heap.size]? = some (.cells #[.int .i64 a.line, .int .i64 a.col] 24) ∧ W.heap[w.heap.size + 1]? = some (.cells #[.int .i64 b.line, .int .i64 b.col] 24) ∧ W.heap[w.heap.size + 2]? = some (.cells #[.func (.func g) #[] lb] 168)) := zA fun W hW => ⟨zX hW k0, zX hW k1, zX hW k2⟩;have HP : Hid (∀ p : Ps, posV p = .agg #[.int .i64 p.line, .int .i64 p.col]) := zA fun _ => rfl;have H1 := zA hB;have HL := zA h;have HG := zA hg;have HCL := zA hC;have HS := zA hs;have HF := zA hf;have hs1 := hB.size;obtain ⟨p1, f1⟩ := blk k0;obtain ⟨p2, f2⟩ := blk k1;obtain ⟨va, vc, rfl⟩ := h.slice;obtain ⟨_, i, j, p, q, l, m, rfl, rfl, hl, hm, hp, hq, hij, hpq⟩ := vS hsp;have hjl := (zK.1 hm).1;have HR : Hid (yR C d ⟨i, p⟩ ⟨j, q⟩ = (vT C d (kI d i p j q (j + 1)), 0)) := zA (by unfold yR; rw [if_pos hsp, if_neg hc]; rfl);have HOK : Hid (∀ k, i ≤ k → k ≤ j → zAs d (rowB d i p j q k)) := zA fun k h1 h2 => zDj hl hm hp hq hpq h1 h2;clear h he hs hg hC hf hc hnn hsp hl hm hp hq hpq k0 k1 k2 hB;rw [HP.out, HP.out] at HC1 HC2 ⊢;refine (callsIn_wide (n := 6)).1 ?_;refine callsIn_of_wp_marks Tryz.func187 rfl trivial ?_ rfl;simp only [Tryz.ntmps187, List.size_toArray, List.length_cons, List.length_nil, Nat.reduceAdd, Nat.reduceSub, Array.replicate_succ, Array.replicate_zero, List.push_toArray, List.append_toArray, List.nil_append, List.cons_append];have hwf : ∀ f, Fence.wide.fn f := fun _ => trivial;have hwd : Fence.wide.depth = none := rfl
 gi_wp2_with (first
  | (gi_at_call 154; refine (callsIn_wide.2 HC1.out).mono ?_; rintro e w2 ⟨rfl, hb2⟩; obtain ⟨q1, g1⟩ := blk (HB.out _ hb2).1; obtain ⟨q2, g2⟩ := blk (HB.out _ hb2).2.1)
  | (gi_at_call 224; refine (callsIn_wide.2 (HC2.out _ hb2)).mono ?_; rintro e w3 ⟨rfl, hb3⟩; have hx3 := jF hb2 hb3; obtain ⟨q3, g3⟩ := blk (HB.out _ hx3).1; obtain ⟨q4, g4⟩ := blk (HB.out _ hx3).2.1)
  | (gi_at_call 167; refine (callsIn_wide.2 (HO.out _ hx3)).mono ?_; rintro e w4 ⟨v4, rfl, hv4, hb4⟩; obtain ⟨va4, c4, rfl⟩ := hv4.slice; have hx4 := jF hx3 hb4; obtain ⟨q5, g5⟩ := blk (HB.out _ hx4).1; obtain ⟨q6, g6⟩ := blk (HB.out _ hx4).2.1; have hs4 := hx4.size; have na4 : ¬ w4.heap.size = w.heap.size := qC; have r1 := jP (q5 0); have r2 := jP (q5 1); have r3 := jP (q6 0); have r4 := jP (q6 1))
  | (gi_at_call 155; refine (callsIn_wide.2 (zCK _ _ _ _ _ _ _ _)).mono ?_; rintro e w5 ⟨rfl, rfl⟩))
 have hx4z := hx4.size;have hw4 : Below w.heap.size w w4 := H1.out.trans (hx4.mono hs1);have HV4 := zA hv4;have hz32 := hx3.size;obtain ⟨w6, hw6⟩ : ∃ w6, (((w4.alloc (.cells #[.slice va4 d.length c4] 22)).alloc (.cells #[.slice va d.length vc] 22)).alloc (.cells #[.int .i64 i, .int .i64 p] 24)).alloc (.cells #[.int .i64 j, .int .i64 q] 24) = w6 := ⟨_, rfl⟩;rw [hw6];obtain ⟨t0, t1, t2⟩ := HB.out _ hx4;have hb46 : Below w4.heap.size w4 w6 := hw6 ▸ ((((Below.refl _ _).alloc (zC _) _).alloc qE _).alloc jB _).alloc jB _;have hz6 : w6.heap.size = w4.heap.size + 4 := by rw [← hw6]; simp
 have m0 : w6.heap[w4.heap.size]? = some (.cells #[.slice va4 d.length c4] 22) := hw6 ▸ jH _ _ (jH _ _ (jH _ _ (jD _ _ rfl)));have n0 : w6.heap[w4.heap.size + 1]? = some (.cells #[.slice va d.length vc] 22) := hw6 ▸ jH _ _ (jH _ _ (jD _ _ qE));have n1 : w6.heap[w4.heap.size + 1 + 1]? = some (.cells #[.int .i64 i, .int .i64 p] 24) := hw6 ▸ jH _ _ (jD _ _ qE);have n2 : w6.heap[w4.heap.size + 1 + 2]? = some (.cells #[.int .i64 j, .int .i64 q] 24) := hw6 ▸ jD _ _ qE;have hb6 : Below w.heap.size w w6 := hw4.trans (hb46.mono qC);have hEI : EI C d (.slice va4 d.length c4) (.func (.func g) #[] lb) w w4.heap.size w6.heap.size [] w6 := ⟨m0, zX hb46 t2, SliceR.stable (zZ true) HV4.out (.all hb46) (fun b hb _ => (by have hb : w3.heap.size ≤ b := hb; omega)), hb6, zC _⟩;clear hw6 q1 q2 q3 q4 q5 q6 g1 g2 g3 g4 g5 g6 p1 p2 f1 f2 t0 t1 t2 r1 r2 r3 r4 hW1 m0 hv4;have N0 := zA (zB n0 (zB n1 n2));clear n0 n1 n2
 refine zBa rfl qC (gf := 209) (lb := #[.pointer (some ⟨w4.heap.size + 1 + 1, 0, none⟩), .pointer (some ⟨w4.heap.size + 1 + 2, 0, none⟩), .pointer (some ⟨w4.heap.size + 1, 0, none⟩)]) rfl trivial (enters_of Tryz.func209 zT rfl)
  (encs := uH (d := d)) (n₀ := w.heap.size) (base := w4.heap.size + 1) (S := fun ys => ys.map (·.1) = kI d i p j q (j + 1)) (Sp := fun _ => True) (N := 200000) (w0 := w6) ?seq qC (Below.refl _ _) (fun _ => rfl)
  (EI C d (.slice va4 d.length c4) (.func (.func g) #[] lb) w w4.heap.size w6.heap.size) (fun _ _ _ => False) (zLn qC) (fun _ _ _ _ _ hs _ _ => hs) hEI (fun _ _ h => h.2.2.2.2)
  (fun x => #[.int .i64 x.1.2.1, .int .i64 x.1.2.2]) 164 ?act ?assign ?body ?done ?stop
 case seq =>
  intro l J Jx W hW hJ _ hY h0;exact zEr 5 l (w4.heap.size + 1) (w4.heap.size + 1 + 1) (w4.heap.size + 1 + 2) (w4.heap.size + 1) (.slice va d.length vc) d i p j q S J Jx w W HL.out (hb6.trans (hW.mono hb6.size)) ⟨by omega, by omega, by omega⟩ (zX hW N0.out.1) (zX hW N0.out.2.1) (zX hW N0.out.2.2) hij hjl HOK.out HS.out.2.1 hJ hY h0
 case assign =>
  intro l pre x W K Bx hBx hI hK
  gi_wp2
  rw [← hBx];exact hK
 case body =>
  intro l pre x Bx W hI hBx hbx hlt;obtain ⟨t0, t2, hD, hb, hz⟩ := hI;obtain ⟨ln, hln, hft, htl⟩ := x.2;obtain ⟨xi, exi⟩ : ∃ z, x.1.1 = z := ⟨_, rfl⟩;obtain ⟨xf, exf⟩ : ∃ z, x.1.2.1 = z := ⟨_, rfl⟩;obtain ⟨xt, ext⟩ : ∃ z, x.1.2.2 = z := ⟨_, rfl⟩;have hal := zDG HCL.out (pre.map (·.1)) d;obtain ⟨D, hDe⟩ : ∃ D, vT C d (pre.map (·.1)) = D := ⟨_, rfl⟩;have HSN : Hid (vT C d ((pre ++ [x]).map (·.1)) = setRow C D x.1) := zA (by rw [List.map_append, List.map_singleton, zGT, hDe]);rw [hDe] at hD hal;rw [exi] at hln;rw [exf, ext] at hft hbx;rw [ext] at htl;obtain ⟨m, hm, hml⟩ := hal.2 xi ln hln;have HRW := zA (zEV (C := C) (D := D) (x := x.1) (by rw [exi]; exact hm));rw [exi, exf, ext] at HRW;rw [exi, exf, ext];clear exi exf ext hDe;have hil := (zK.1 hln).1;have hmc : m.cells.length ≤ 1000000 := by rw [hml]; exact (HF.out.2 ln (List.mem_of_getElem? hln)).2
  obtain ⟨b4, o4, c4', la, lc, ca, cc, hve, hc4, hm4, hA4, hI4, hC4, hS4⟩ := uU hD hm;rw [← hal.1] at hve;cases hve;obtain ⟨b4', o4', cs4, hbe, _, hg4, hgz⟩ := SliceR.cellAt hD (i := xi) (by rw [← hal.1]; exact hil);cases hbe;obtain ⟨hz4, _, _, _, k3, _, _⟩ := hA4;obtain ⟨s0, s0f⟩ := blk t0;obtain ⟨s2, s2f⟩ := blk t2;obtain ⟨sx, sxf⟩ := blk hbx;unfold maxLen at hm4;have i0 : (0 : Int) ≤ (xi : Int) := Int.natCast_nonneg _;have i1 : (xi : Int) < (d.length : Int) := by omega
  gi_wp2_with fail
  have hd0 : Below W.heap.size W W.drew := (Below.refl _ _).drew;have HCC := zA (HG.out W.drew (.slice ca m.cells.length cc) m.cells xf xt hb.drew (SliceR.below (jV _) hC4 hd0) hft (by rw [hml]; exact htl) hmc);have e1 : b4 ≠ w4.heap.size := fun e => by subst e; rw [t0] at hg4; cases hg4
  have e2 : b4 ≠ w.heap.size + 1 + 1 := fun e => by subst e; rw [show W.heap[w.heap.size + 1 + 1]? = _ from t2] at hg4; cases hg4
  have e3 : b4 ≠ Bx := fun e => by subst e; rw [hbx] at hg4; cases hg4
  have HT := zA (zB t0 (zB t2 (zB hbx hg4)));have HD := zA hD;have HM := zA (zB hm hml);have HI4 := zA hI4;have HIN := zA (zB hb hz);clear hD hm hml hI4 hC4 hmc t0 t2 hbx hg4 hal;refine zDA zT zT (S := fun w' => w'.cell? ⟨w4.heap.size, 0, none⟩ = some (.slice (some ⟨b4, o4, none⟩) d.length c4) ∧ w'.cell? ⟨w.heap.size + 1 + 1, 0, none⟩ = some (.func (.func g) #[] lb) ∧ w'.cell? ⟨Bx, 0, none⟩ = some (.int .i64 xf) ∧ w'.cell? ⟨Bx, 1, none⟩ = some (.int .i64 xt)) ⟨s0 0, s2 0, sx 0, sx 1⟩ (fun R hR hHeld => ?_);refine zP (i := 0) (v := ?_) zAu zT zT zT (fun _ _ _ h => h) (Or.inl ⟨by rfl, ?_⟩) jA ?_;rotate_left 1
  ·intro w hSw; (try dsimp only at hSw); go_simp; (first | done | with_reducible rfl)
  try simp only [zU, qI, qX, qY]
  refine zP (i := 1) (v := ?_) qT zT zT zT (fun _ _ _ h => h) (Or.inl ⟨by rfl, ?_⟩) jA ?_;rotate_left 1
  ·intro w hSw; (try dsimp only at hSw); go_simp; (first | done | with_reducible rfl)
  try simp only [zU, qI, qX, qY]
  refine zP (i := 2) (v := ?_) qT zT zT zT (fun _ _ _ h => h) (Or.inl ⟨by rfl, ?_⟩) jA ?_;rotate_left 1
  ·intro w hSw; (try dsimp only at hSw); go_simp; (first | done | with_reducible rfl)
  try simp only [zU, qI, qX, qY]
  refine zP (i := 3) (v := ?_) qT zT zT zT (fun _ _ _ h => h) (Or.inl ⟨by rfl, ?_⟩) jA ?_;rotate_left 1
  ·intro w hSw; (try dsimp only at hSw); go_simp; (first | done | with_reducible rfl)
  try simp only [zU, qI, qX, qY]
  refine zP (i := 4) (v := ?_) qT zT zT zT (fun _ _ _ h => h) (Or.inl ⟨by rfl, ?_⟩) jA ?_;rotate_left 1
  ·intro w hSw; (try dsimp only at hSw); go_simp; (first | done | with_reducible rfl)
  try simp only [zU, qI, qX, qY]
  refine zP (i := 5) (v := ?_) qT zT zT zT (fun _ _ _ h => h) (Or.inl ⟨by rfl, ?_⟩) jA ?_;rotate_left 1
  ·intro w hSw; (try dsimp only at hSw); go_simp; (first | done | with_reducible rfl)
  try simp only [zU, qI, qX, qY]
  refine zP (i := 6) (v := ?_) qT zT zT zT (fun _ _ _ h => h) (Or.inl ⟨by rfl, ?_⟩) jA ?_;rotate_left 1
  ·intro w hSw; (try dsimp only at hSw); go_simp; (first | done | with_reducible rfl)
  try simp only [zU, qI, qX, qY]
  refine zP (i := 8) (v := ?_) qT zT zT zT (fun _ _ _ h => h) (Or.inl ⟨by rfl, ?_⟩) jA ?_;rotate_left 1
  ·intro w hSw; (try dsimp only at hSw); go_simp; (first | done | with_reducible rfl)
  try simp only [zU, qI, qX, qY]
  refine zP (i := 9) (v := ?_) qT zT zT zT (fun _ _ _ h => h) (Or.inl ⟨by rfl, ?_⟩) jA ?_;rotate_left 1
  ·intro w hSw; (try dsimp only at hSw); go_simp; (first | done | with_reducible rfl)
  try simp only [zU, qI, qX, qY]
  refine zP (i := 10) (v := ?_) qT zT zT zT (fun _ _ _ h => h) (Or.inl ⟨by rfl, ?_⟩) jA ?_;rotate_left 1
  ·intro w hSw; (try dsimp only at hSw); go_simp; (first | done | with_reducible rfl)
  try simp only [zU, qI, qX, qY]
  refine zP (i := 11) (v := ?_) qT zT zT zT (fun _ _ _ h => h) (Or.inl ⟨by rfl, ?_⟩) jA ?_;rotate_left 1
  ·intro w hSw; (try dsimp only at hSw); go_simp; (first | done | with_reducible rfl)
  try simp only [zU, qI, qX, qY]
  refine zQ (rs := [7]) zT qE ?_;refine zN qT (fun K hK => ?_) zO;go_simp;refine hK.out _ _ ⟨s0 0, s2 0, sx 0, sx 1⟩ (fun _ => ?_);clear hK K;try simp only [zU, qI, qX, qY]
  refine zQ (rs := [12]) zT qE ?_;refine zN qT (fun K hK => ?_) zO;go_simp;refine HCC.out.mono ?_;intro e w5 hsaid;obtain ⟨v5, rfl, hv5, hb5⟩ := hsaid;have hb5 : Below W.heap.size W w5 := hd0.trans hb5;obtain ⟨a5, c5, rfl⟩ := hv5.slice;obtain ⟨y0, y0f⟩ := blk (zX hb5 HT.out.1);obtain ⟨y2, y2f⟩ := blk (zX hb5 HT.out.2.1);obtain ⟨yx, yxf⟩ := blk (zX hb5 HT.out.2.2.1);have hS5 : w5.cell? ⟨w4.heap.size, 0, none⟩ = some (.slice (some ⟨b4, o4, none⟩) d.length c4) ∧ w5.cell? ⟨w.heap.size + 1 + 1, 0, none⟩ = some (.func (.func g) #[] lb) ∧ w5.cell? ⟨Bx, 0, none⟩ = some (.int .i64 xf) ∧ w5.cell? ⟨Bx, 1, none⟩ = some (.int .i64 xt) := ⟨y0 0, y2 0, yx 0, yx 1⟩;have y4 : w5.cell? ⟨b4, o4 + xi * 4 + 3, none⟩ = some (.slice ca m.cells.length cc) := (hb5.cell (p := ⟨b4, o4 + xi * 4 + 3, none⟩) hz4).trans k3;have y4f : w5.frozen? ⟨b4, o4 + xi * 4 + 3, none⟩ = false := xF (zX hb5 HT.out.2.2.2);refine hK.out _ _ hS5 (fun hHeld => ?_);clear hK K;try simp only [zU, qI, qX, qY]
  refine zP (i := 13) (v := ?_) qT zT zT zT (fun _ _ _ h => h) (Or.inl ⟨by rfl, ?_⟩) jA ?_;rotate_left 1
  ·intro w hSw; (try dsimp only at hSw); go_simp; (first | done | with_reducible rfl)
  try simp only [zU, qI, qX, qY]
  refine zP (i := 14) (v := ?_) qT zT zT zT (fun _ _ _ h => h) (Or.inl ⟨by rfl, ?_⟩) jA ?_;rotate_left 1
  ·intro w hSw; (try dsimp only at hSw); go_simp; (first | done | with_reducible rfl)
  try simp only [zU, qI, qX, qY]
  refine zP (i := 15) (v := ?_) qT zT zT zT (fun _ _ _ h => h) (Or.inl ⟨by rfl, ?_⟩) jA ?_;rotate_left 1
  ·intro w hSw; (try dsimp only at hSw); go_simp; (first | done | with_reducible rfl)
  try simp only [zU, qI, qX, qY]
  refine zP (i := 16) (v := ?_) qT zT zT zT (fun _ _ _ h => h) (Or.inl ⟨by rfl, ?_⟩) jA ?_;rotate_left 1
  ·intro w hSw; (try dsimp only at hSw); go_simp; (first | done | with_reducible rfl)
  try simp only [zU, qI, qX, qY]
  refine zP (i := 17) (v := ?_) qT zT zT zT (fun _ _ _ h => h) (Or.inl ⟨by rfl, ?_⟩) jA ?_;rotate_left 1
  ·intro w hSw; (try dsimp only at hSw); go_simp; (first | done | with_reducible rfl)
  try simp only [zU, qI, qX, qY]
  refine zQ (rs := [18]) zT qE ?_;refine zN qT (fun K hK => ?_) zO;go_simp;obtain ⟨b4', o4', cs6, hbe6, _, hg6, _⟩ := SliceR.cellAt HV4.out (i := xi) hil;cases hbe6;have hb4w : b4 < w4.heap.size := (Array.getElem?_eq_some_iff.1 hg6).1
  have hS6 : (w5.setCell ⟨b4, o4 + xi * 4 + 3, none⟩ (.slice a5 (C m.cells xf xt).length c5)).cell? ⟨w4.heap.size, 0, none⟩ = some (.slice (some ⟨b4, o4, none⟩) d.length c4) ∧ (w5.setCell ⟨b4, o4 + xi * 4 + 3, none⟩ (.slice a5 (C m.cells xf xt).length c5)).cell? ⟨w.heap.size + 1 + 1, 0, none⟩ = some (.func (.func g) #[] lb) ∧ (w5.setCell ⟨b4, o4 + xi * 4 + 3, none⟩ (.slice a5 (C m.cells xf xt).length c5)).cell? ⟨Bx, 0, none⟩ = some (.int .i64 xf) ∧ (w5.setCell ⟨b4, o4 + xi * 4 + 3, none⟩ (.slice a5 (C m.cells xf xt).length c5)).cell? ⟨Bx, 1, none⟩ = some (.int .i64 xt) :=
   ⟨(kE e1).trans hS5.1, (kE e2).trans hS5.2.1, (kE e3).trans hS5.2.2.1, (kE e3).trans hS5.2.2.2⟩
  refine hK.out _ _ hS6 (fun _ => ?_);refine wpAnyH_done zT ?_ _;refine hR.out _ _ ?_
  gi_wp2_with fail
  have h5 := SliceR.below (zZ true) HD.out hb5
  have hv5' : jC true w5 (fun b => w.heap.size ≤ b) (.slice a5 (C m.cells xf xt).length c5) (C m.cells xf xt) := SliceR.stable (jV _) hv5 (Keeps.refl _ _) (fun b hb' _ => by
   have hb' : W.heap.size ≤ b := hb';have := HIN.out.1.size
   omega)
  have h6 := SliceR.set1 kB.tag h5 HM.out.1 (j := 3) (x' := { m with cells := C m.cells xf xt }) qV (.slice a5 (C m.cells xf xt).length c5) (by
   rintro vs _ ⟨p', q', rfl, hp', hq'⟩;exact ⟨p', _, rfl, hp', hv5'⟩)
  have hbw5 := jF HIN.out.1 hb5;refine ⟨((vI hb5).from _).trans ((KeepsOthers.setCell _ _ _).from _), (Kp.of_below HIN.out.1.size hb5).t (Kp.setCell _ hS4 qC _), ?_, ?_, ?_, hbw5.setCell hS4 _, ?_⟩
  ·rw [jL, if_neg e1]; exact zX hb5 HT.out.1
  ·rw [jL, if_neg e2]; exact zX hb5 HT.out.2.1
  ·rw [HSN.out, HRW.out]; exact h6
  ·have := hb5.size; have := HIN.out.2; simp; omega
 case done =>
  rintro D ys W hD hys ⟨t0, t2, hDoc, hb, hz⟩ hK;obtain ⟨s0, s0f⟩ := blk t0;rw [hys] at hDoc;have HDOC := zA hDoc;have HB9 := zA hb;have HK9 := zA hK;clear hDoc t2 hb hK
  gi_wp2_with fail
  refine ⟨by simp, .inl ⟨_, _, rfl, run_takeDeferred HK9.out, ?_⟩⟩;refine ⟨.tuple #[.slice va4 d.length c4, .int .i64 0], by simp [results, Tryz.results187, go_sem], ?_⟩;unfold DocSaid;rw [HR.out];exact ⟨_, rfl, (uZ (β := Unit) D _ _ (fun _ => vT C d (kI d i p j q (j + 1)))).putObj (s := ()) _ HDOC.out (zC _) HK9.out rfl, HB9.out.trans (belowK_b (w := w) (zC _) W D _ _ qC HK9.out rfl rfl)⟩
 case stop =>
  rintro D c pre W _ _ h _;exact h.elim
theorem zEm (v : Value) (d : Doc) (a b : Ps) (g : Nat) (lb : Array Value) (C : List Cel → Nat → Nat → List Cel) (w : World) (S : Nat → Prop) (h : jE w S v d) (he : EnvT w) (hs : Small d) (hf : Fits d) (hC : ∀ c i j, (C c i j).length = c.length)
  (eg : ∀ args w, (callFunc g args).run zV w = .ok (.enter g args) w)
  (hg : ∀ W v cs (i j : Nat), Below w.heap.size w W → jC true W (fun b => w.heap.size ≤ b) v cs → i ≤ j → j ≤ cs.length → cs.length ≤ 1000000 → Calls zV g (#[v, .int .i64 i, .int .i64 j] ++ lb) W (CellsSaid (C cs i j) 0 W)) :
  Calls zV 187 #[v, posV a, posV b, .func (.func g) #[] lb] w (DocSaid (yR C d a b) w) := by
 by_cases hc : cellsD d a b = []
 ·exact zHY v d a b g lb C w S h he hs hc
 ·exact zIJ v d a b g lb C w S h he hs hf hC hc eg hg
end Go.Proofs.YtjgeadoncanheaaGreatDoor
