/- The walks of doc.between's iterator, doc.tells, Count, All, Some. -/
import Derived.Test.YtfoiaoopbkcpoaaGreatDoorBase
import Derived.Test.YtfoiaoopbkcpoaaGreatDoorDocDelete
import Derived.Shelf.AbstractIn
namespace Go.Proofs.Qw
open Go.RowKit Go.Proofs.YtfoiaoopbkcpoaaGreatDoor
/-- The part of line k that stands between two places. -/
def rowB (d : Doc) (i p j q k : Nat) : Nat × Nat × Nat := (k, if k = i then p else 0, if k = j then q else (d.getD k default).cells.length)
def rowsTo (d : Doc) (i p j q k : Nat) : List (Nat × Nat × Nat) := (List.range (k - i)).map fun n => rowB d i p j q (i + n)
/-- It is a part of that line. -/
def RowOk (d : Doc) (x : Nat × Nat × Nat) : Prop := ∃ l, d[x.1]? = some l ∧ x.2.1 ≤ x.2.2 ∧ x.2.2 ≤ l.cells.length
abbrev RowX (d : Doc) := { x : Nat × Nat × Nat // RowOk d x }
abbrev rowEnc {d : Doc} (x : RowX d) : Array Value := #[.int .i64 x.1.1, .agg #[.int .i64 x.1.2.1, .int .i64 x.1.2.2]]
theorem rowsTo_nil (d : Doc) (i p j q : Nat) : rowsTo d i p j q i = [] := by simp [rowsTo]
theorem rowsTo_step (d : Doc) {i p j q k : Nat} (h : i ≤ k) : rowsTo d i p j q (k + 1) = rowsTo d i p j q k ++ [rowB d i p j q k] := by
  unfold rowsTo
  rw [show k + 1 - i = (k - i) + 1 by omega, List.range_succ, List.map_append]
  congr 1
  rw [List.map_singleton, show i + (k - i) = k by omega]
theorem rowB_len (d : Doc) {i p j q k : Nat} {l : Lin} (hl : d[k]? = some l) : rowB d i p j q k = (k, if k = i then p else 0, if k = j then q else l.cells.length) := by
  unfold rowB; simp [List.getD, hl]
/-- The places are in order, in the document: so each part is one. -/
theorem rowB_ok {d : Doc} {i p j q k : Nat} {l m : Lin} (hl : d[i]? = some l) (hm : d[j]? = some m) (hp : p ≤ l.cells.length) (hq : q ≤ m.cells.length) (hpq : i = j → p ≤ q) (hk1 : i ≤ k) (hk2 : k ≤ j) : RowOk d (rowB d i p j q k) := by
  obtain ⟨x, hx, _⟩ := getOf d k (by have := (List.getElem?_eq_some_iff.1 hm).1; omega)
  refine ⟨x, by simpa [rowB] using hx, ?_⟩
  rw [rowB_len d hx]
  dsimp only
  by_cases h1 : k = i
  · subst h1
    rw [hl] at hx
    cases hx
    by_cases h2 : k = j
    · subst h2
      rw [hl] at hm
      cases hm
      simp only [if_pos]
      exact ⟨hpq rfl, hq⟩
    · simp only [if_pos, if_neg h2]
      exact ⟨hp, Nat.le_refl _⟩
  · by_cases h2 : k = j
    · subst h2
      rw [hm] at hx
      cases hx
      simp only [if_pos, if_neg h1]
      exact ⟨Nat.zero_le _, hq⟩
    · simp only [if_neg h1, if_neg h2]
      exact ⟨Nat.zero_le _, Nat.le_refl _⟩
end Go.Proofs.Qw
namespace Go.Proofs.YtfoiaoopbkcpoaaGreatDoor
open Go.RowKit
open Go.Proofs.Qw

set_option maxHeartbeats 400000 in
theorem between_any (va : Option Addr) (vn vc : Nat) (a1 a2 b1 b2 : Int) (w : World) :
    Calls Tryz.prog 93 #[.slice va vn vc, .agg #[.int .i64 a1, .int .i64 a2], .agg #[.int .i64 b1, .int .i64 b2]] w fun e w' => e = .returned (.func (.func 125) #[] #[.pointer (some ⟨w.heap.size + 1, 0, none⟩), .pointer (some ⟨w.heap.size + 2, 0, none⟩), .pointer (some ⟨w.heap.size, 0, none⟩)]) ∧
      w' = ((w.alloc (.cells #[.slice va vn vc] 22)).alloc (.cells #[.int .i64 a1, .int .i64 a2] 24)).alloc (.cells #[.int .i64 b1, .int .i64 b2] 24) := by
  go_enter Tryz.func93, Tryz.ntmps93
  go_wp2_with fail
  go_ret
  exact ⟨rfl, rfl⟩

attribute [local go_sem] Oper.semAt_some

set_option maxRecDepth 200000 in
set_option maxHeartbeats 4000000 in
theorem between1_in (n l Bd Ba Bb base : Nat) (v : Value) (d : Doc) (i p j q : Nat) (S : Nat → Prop) (J Jx : List (RowX d) → World → Prop) (w0 W : World) (hv : LinsR w0 S v d) (hb0 : Below w0.heap.size w0 W)
    (hbase : base ≤ Bd ∧ base ≤ Ba ∧ base ≤ Bb) (hD : W.heap[Bd]? = some (.cells #[v] 22)) (hA : W.heap[Ba]? = some (.cells #[.int .i64 i, .int .i64 p] 24)) (hB : W.heap[Bb]? = some (.cells #[.int .i64 j, .int .i64 q] 24))
    (hij : i ≤ j) (hj : j < d.length) (hok : ∀ k, i ≤ k → k ≤ j → RowOk d (rowB d i p j q k)) (hlen : d.length ≤ 100000) (hJ : AbidesFrom W.heap.size J)
    (hY : ∀ (pre : List (RowX d)) (x : RowX d) W, J pre W → pre.length < 200000 → YieldAt Fence.wide (n - 1) Tryz.prog l (rowEnc x) W fun e W' =>
      (e = .returned (.bool true) ∧ J (pre ++ [x]) W' ∧ Kp w0.heap.size base W W') ∨ (e = .returned (.bool false) ∧ Jx (pre ++ [x]) W'))
    (h0 : J [] W) :
    CallsIn Fence.wide n Tryz.prog 125 #[.func (.yield l) #[] #[], .pointer (some ⟨Ba, 0, none⟩), .pointer (some ⟨Bb, 0, none⟩), .pointer (some ⟨Bd, 0, none⟩)] W fun e W' => (∃ v, e = .returned v) ∧
      ((∃ ys : List (RowX d), ys.map (·.1) = rowsTo d i p j q (j + 1) ∧ J ys W') ∨ (∃ pre, True ∧ Jx pre W')) := by
  refine callsIn_of_wp Tryz.func125 rfl trivial ?_ rfl
  simp only [Tryz.ntmps125, List.size_toArray, List.length_cons, List.length_nil, Nat.reduceAdd, Nat.reduceSub, Array.replicate_succ, Array.replicate_zero, List.push_toArray, List.append_toArray, List.nil_append, List.cons_append]
  have hwf : ∀ f, Fence.wide.fn f := fun _ => trivial
  have hwd : Fence.wide.depth = none := rfl
  obtain ⟨va, vc, rfl, hvc, hvm, hx⟩ := lins_shape hv
  have HX := Lib.hid hx
  have HY := Lib.hid hY
  have HOK := Lib.hid hok
  have HJA := Lib.hid hJ
  have HBK := Lib.hid (And.intro hD (And.intro hA hB))
  obtain ⟨p1, f1⟩ := blk hD
  obtain ⟨p2, f2⟩ := blk hA
  obtain ⟨p3, f3⟩ := blk hB
  unfold maxLen at hvm
  clear hx hv hY hok hJ hD hA hB
  gi_wp2_with fail
  clear p1 f1 p2 f2 p3 f3
  gi_loopw [5, 6, 7] (fun z _ _ wr => ∃ (k : Nat) (pre : List (RowX d)), i ≤ k ∧ k ≤ j + 1 ∧ pre.length ≤ k ∧ z = .int .i64 k ∧ Hid (pre.map (·.1) = rowsTo d i p j q k) ∧ J pre wr ∧ Below w0.heap.size w0 wr ∧ Hid (wr.heap[Bd]? = some (.cells #[.slice va d.length vc] 22) ∧ wr.heap[Ba]? = some (.cells #[.int .i64 i, .int .i64 p] 24) ∧ wr.heap[Bb]? = some (.cells #[.int .i64 j, .int .i64 q] 24)) ∧ W.heap.size ≤ wr.heap.size)
    (fun z _ _ _ => j + 1 - (intOf z).toNat)
  case atStart => exact ⟨i, [], Nat.le_refl _, by omega, Nat.zero_le _, rfl, Lib.hid (rowsTo_nil ..).symm, h0, hb0, HBK, Nat.le_refl _⟩
  case round =>
    obtain ⟨k, pre, hk1, hk2, hpl, rfl, HP, hJs, hb1, HBL, hz1⟩ := hrel
    obtain ⟨p1, f1⟩ := blk HBL.out.1
    obtain ⟨p2, f2⟩ := blk HBL.out.2.1
    obtain ⟨p3, f3⟩ := blk HBL.out.2.2
    by_cases hlt : k ≤ j
    · obtain ⟨l0, hl0, _⟩ := getOf d k (by omega)
      obtain ⟨b, o, la, lc, ca, cc, rfl, hAk⟩ := HX.out k l0 hl0
      obtain ⟨_, c0, c1, c2, c3, _, _⟩ := hAk.below hb1
      have HL0 := Lib.hid (rowB_len d (i := i) (p := p) (j := j) (q := q) hl0)
      have hd1 : Below wr.heap.size wr wr.drew := (Below.refl _ _).drew
      have HD1 := Lib.hid hd1
      have HJ1 := Lib.hid (abides_below (X := wr) (Y := wr.drew) HJA.out hJs hd1)
      have i0 : (0 : Int) ≤ (k : Int) := Int.natCast_nonneg _
      have i1 : (k : Int) < (d.length : Int) := by omega
      have hNext : ∀ w7, J (pre ++ [⟨rowB d i p j q k, HOK.out k hk1 hlt⟩]) w7 → Kp w0.heap.size base wr.drew w7 → ∃ (k' : Nat) (pre : List (RowX d)), i ≤ k' ∧ k' ≤ j + 1 ∧ pre.length ≤ k' ∧ k' = k + 1 ∧ Hid (pre.map (·.1) = rowsTo d i p j q k') ∧ J pre w7 ∧ Below w0.heap.size w0 w7 ∧ Hid (w7.heap[Bd]? = some (.cells #[.slice (some ⟨b, o, none⟩) d.length vc] 22) ∧ w7.heap[Ba]? = some (.cells #[.int .i64 i, .int .i64 p] 24) ∧ w7.heap[Bb]? = some (.cells #[.int .i64 j, .int .i64 q] 24)) ∧ W.heap.size ≤ w7.heap.size := by
        intro w7 hj7 hk7
        refine ⟨k + 1, _, by omega, by omega, by simp; omega, rfl, Lib.hid ?_, hj7, (below_from hb1 HD1.out).trans hk7.below, Lib.hid ⟨hk7.cells _ _ hbase.1 HBL.out.1 rfl, hk7.cells _ _ hbase.2.1 HBL.out.2.1 rfl, hk7.cells _ _ hbase.2.2 HBL.out.2.2 rfl⟩, Nat.le_trans hz1 hk7.below.size⟩
        rw [rowsTo_step d hk1, List.map_append, HP.out]
        rfl
      have HNX := Lib.hid hNext
      have hYY := HY.out pre ⟨rowB d i p j q k, HOK.out k hk1 hlt⟩ wr.drew HJ1.out (by omega)
      have hrow : rowEnc (⟨rowB d i p j q k, HOK.out k hk1 hlt⟩ : RowX d) = #[.int .i64 k, .agg #[.int .i64 ((if k = i then p else 0 : Nat) : Int), .int .i64 ((if k = j then q else l0.cells.length : Nat) : Int)]] := by unfold rowEnc; simp only [HL0.out]
      rw [hrow] at hYY
      clear hAk hl0 hNext hJs HJ1 HL0 hrow
      rcases (show k = i ∧ k = j ∨ k = i ∧ ¬ k = j ∨ ¬ k = i ∧ k = j ∨ ¬ k = i ∧ ¬ k = j by omega) with ⟨e1, e2⟩ | ⟨e1, e2⟩ | ⟨e1, e2⟩ | ⟨e1, e2⟩
      · rw [if_pos e1, if_pos e2] at hYY
        have hq1 : ((k : Int) == (i : Int)) = true := by simp; omega
        have hq2 : ((k : Int) == (j : Int)) = true := by simp; omega
        have hq3 : decide ((k : Int) ≤ (j : Int)) = true := by simp; omega
        try rw [show ((0 : Nat) : Int) = 0 from rfl] at hYY
        obtain ⟨fn, tmps, assign, body, hy, hR⟩ := hYY
        clear e1 e2
        gi_wp2_with fail
        gi_region
        gi_wp2_with fail
        refine hR.mono ?_
        rintro e w7 (⟨rfl, hJ7, hk7⟩ | ⟨rfl, hJx7⟩)
        · gi_wp2_with fail
          obtain ⟨k', pre', g1, g2, g3, e3, g4, g5, g6, g7, g8⟩ := HNX.out w7 hJ7 hk7
          go_roundw
          case rel => exact ⟨k', pre', g1, g2, g3, by rw [e3]; go_num, g4, g5, g6, g7, g8⟩
          case measure => simp [intOf]; omega
        · gi_wp2_with fail
          refine bodyPost_ret (results_none rfl _ _ _) rfl ?_
          exact ⟨⟨_, rfl⟩, .inr ⟨_, trivial, hJx7⟩⟩
      · rw [if_pos e1, if_neg e2] at hYY
        have hq1 : ((k : Int) == (i : Int)) = true := by simp; omega
        have hq2 : ((k : Int) == (j : Int)) = false := by simp; omega
        have hq3 : decide ((k : Int) ≤ (j : Int)) = true := by simp; omega
        try rw [show ((0 : Nat) : Int) = 0 from rfl] at hYY
        obtain ⟨fn, tmps, assign, body, hy, hR⟩ := hYY
        clear e1 e2
        gi_wp2_with fail
        gi_region
        gi_wp2_with fail
        refine hR.mono ?_
        rintro e w7 (⟨rfl, hJ7, hk7⟩ | ⟨rfl, hJx7⟩)
        · gi_wp2_with fail
          obtain ⟨k', pre', g1, g2, g3, e3, g4, g5, g6, g7, g8⟩ := HNX.out w7 hJ7 hk7
          go_roundw
          case rel => exact ⟨k', pre', g1, g2, g3, by rw [e3]; go_num, g4, g5, g6, g7, g8⟩
          case measure => simp [intOf]; omega
        · gi_wp2_with fail
          refine bodyPost_ret (results_none rfl _ _ _) rfl ?_
          exact ⟨⟨_, rfl⟩, .inr ⟨_, trivial, hJx7⟩⟩
      · rw [if_neg e1, if_pos e2] at hYY
        have hq1 : ((k : Int) == (i : Int)) = false := by simp; omega
        have hq2 : ((k : Int) == (j : Int)) = true := by simp; omega
        have hq3 : decide ((k : Int) ≤ (j : Int)) = true := by simp; omega
        try rw [show ((0 : Nat) : Int) = 0 from rfl] at hYY
        obtain ⟨fn, tmps, assign, body, hy, hR⟩ := hYY
        clear e1 e2
        gi_wp2_with fail
        gi_region
        gi_wp2_with fail
        refine hR.mono ?_
        rintro e w7 (⟨rfl, hJ7, hk7⟩ | ⟨rfl, hJx7⟩)
        · gi_wp2_with fail
          obtain ⟨k', pre', g1, g2, g3, e3, g4, g5, g6, g7, g8⟩ := HNX.out w7 hJ7 hk7
          go_roundw
          case rel => exact ⟨k', pre', g1, g2, g3, by rw [e3]; go_num, g4, g5, g6, g7, g8⟩
          case measure => simp [intOf]; omega
        · gi_wp2_with fail
          refine bodyPost_ret (results_none rfl _ _ _) rfl ?_
          exact ⟨⟨_, rfl⟩, .inr ⟨_, trivial, hJx7⟩⟩
      · rw [if_neg e1, if_neg e2] at hYY
        have hq1 : ((k : Int) == (i : Int)) = false := by simp; omega
        have hq2 : ((k : Int) == (j : Int)) = false := by simp; omega
        have hq3 : decide ((k : Int) ≤ (j : Int)) = true := by simp; omega
        try rw [show ((0 : Nat) : Int) = 0 from rfl] at hYY
        obtain ⟨fn, tmps, assign, body, hy, hR⟩ := hYY
        clear e1 e2
        gi_wp2_with fail
        gi_region
        gi_wp2_with fail
        refine hR.mono ?_
        rintro e w7 (⟨rfl, hJ7, hk7⟩ | ⟨rfl, hJx7⟩)
        · gi_wp2_with fail
          obtain ⟨k', pre', g1, g2, g3, e3, g4, g5, g6, g7, g8⟩ := HNX.out w7 hJ7 hk7
          go_roundw
          case rel => exact ⟨k', pre', g1, g2, g3, by rw [e3]; go_num, g4, g5, g6, g7, g8⟩
          case measure => simp [intOf]; omega
        · gi_wp2_with fail
          refine bodyPost_ret (results_none rfl _ _ _) rfl ?_
          exact ⟨⟨_, rfl⟩, .inr ⟨_, trivial, hJx7⟩⟩
    · obtain rfl : k = j + 1 := by omega
      gi_wp2_with fail
      go_end0
      exact ⟨⟨_, rfl⟩, .inl ⟨pre, HP.out, hJs⟩⟩
end Go.Proofs.YtfoiaoopbkcpoaaGreatDoor
namespace Go.Proofs.Qw
open Go.RowKit Go.Proofs.YtfoiaoopbkcpoaaGreatDoor
/-- The cells of a part of a line; those between two places. -/
def cellsB (d : Doc) (x : Nat × Nat × Nat) : List Cel := ((d.getD x.1 default).cells.drop x.2.1).take (x.2.2 - x.2.1)
def cellsL (d : Doc) (l : List (Nat × Nat × Nat)) : List Cel := l.flatMap (cellsB d)
def cellsD (d : Doc) (a b : Ps) : List Cel := if spanD d a b = true then cellsL d (rowsTo d a.line.toNat a.col.toNat b.line.toNat b.col.toNat (b.line.toNat + 1)) else []
theorem cellsL_snoc (d : Doc) (l : List (Nat × Nat × Nat)) (x : Nat × Nat × Nat) : cellsL d (l ++ [x]) = cellsL d l ++ cellsB d x := by simp [cellsL]
theorem cellsB_at {d : Doc} {x : Nat × Nat × Nat} {l : Lin} (h : d[x.1]? = some l) : cellsB d x = (l.cells.drop x.2.1).take (x.2.2 - x.2.1) := by simp [cellsB, List.getD, h]
theorem cellsB_le {d : Doc} (hs : sizeD d ≤ 100000) (x : Nat × Nat × Nat) : (cellsB d x).length ≤ 100000 := by
  unfold cellsB
  rw [List.length_take, List.length_drop]
  by_cases hx : x.1 < d.length
  · obtain ⟨l, hl, _⟩ := getOf d x.1 hx
    have := cells_le hl
    simp only [List.getD, hl, Option.getD_some]
    omega
  · rw [List.getD, List.getElem?_eq_none (by omega)]
    have : (Option.getD (none : Option Lin) default).cells.length = 0 := rfl
    omega
theorem cellsL_le {d : Doc} (hs : sizeD d ≤ 100000) : ∀ l : List (Nat × Nat × Nat), (cellsL d l).length ≤ l.length * 100000
  | [] => by simp [cellsL]
  | x :: l => by
    have h1 := cellsB_le hs x
    have h2 := cellsL_le hs l
    have : cellsL d (x :: l) = cellsB d x ++ cellsL d l := by simp [cellsL]
    rw [this, List.length_append, List.length_cons, Nat.succ_mul]
    omega
/-- A block that is known whole is kept by what makes new ones. -/
theorem blk_own {β : Type} (B k : Nat) (cs : Array Value) (t : TypeId) : OwnFrom B (fun (_ : β) (W : World) => W.heap[k]? = some (.cells cs t)) := fun _ X _ _ hs hg hr =>
  (hg.block k (Array.getElem?_eq_some_iff.1 hs).1 (fun e => by obtain ⟨_, o, ho, hc⟩ := hr k e.symm; rw [hs] at ho; cases ho; cases hc)).trans hs
end Go.Proofs.Qw
namespace Go.Proofs.YtfoiaoopbkcpoaaGreatDoor
open Go.RowKit
open Go.Proofs.Qw
attribute [local go_sem] Oper.semAt_some

/-- Two results that are numbers in cells. -/
theorem results_ints2 {fn : Func} {p u : Tmp} (h : fn.results = #[.cell p 3, .cell u 3]) (tmps : Array Value) (w : World) (a b : Addr) (x y : Int) (hp : tmps.getD p undef = .pointer (some a)) (hu : tmps.getD u undef = .pointer (some b)) (h1 : w.cell? a = some (.int .i64 x)) (h2 : w.cell? b = some (.int .i64 y)) :
    (results fn tmps).run Tryz.prog w = .ok (.tuple #[.int .i64 x, .int .i64 y]) w := by
  simp only [results, h]
  simp at hp hu
  simp [go_sem, hp, hu, h1, h2]
/-- Between two rounds: the two numbers; the boxes of what was handed in. -/
def TI (d : Doc) (so : Cel → Bool) (v fv : Value) (w : World) (n : Nat) (pre : List (RowX d)) (W : World) : Prop :=
  Boxed W (w.heap.size + 4) 3 (.int .i64 (cellsL d (pre.map (·.1))).length) ∧ Boxed W (w.heap.size + 5) 3 (.int .i64 ((cellsL d (pre.map (·.1))).countP so)) ∧
    W.heap[w.heap.size]? = some (.cells #[v] 22) ∧ W.heap[w.heap.size + 3]? = some (.cells #[fv] 86) ∧ Below w.heap.size w W ∧ n ≤ W.heap.size
theorem ti_own {d : Doc} {so : Cel → Bool} {v fv : Value} {w : World} {n B : Nat} (hB : w.heap.size ≤ B) : OwnFrom B (TI d so v fv w n) :=
  OwnFrom.and (Own.from (boxed_own _ _ (fun pre : List (RowX d) => .int .i64 (cellsL d (pre.map (·.1))).length)) _) (OwnFrom.and (Own.from (boxed_own _ _ (fun pre : List (RowX d) => .int .i64 ((cellsL d (pre.map (·.1))).countP so))) _)
    (OwnFrom.and (blk_own _ _ _ _) (OwnFrom.and (blk_own _ _ _ _) (OwnFrom.and (ownFrom_below (Nat.le_refl _) hB) (ownFrom_size _ _)))))

set_option maxRecDepth 200000 in
set_option maxHeartbeats 4000000 in
theorem tells_any (v : Value) (d : Doc) (a b : Ps) (g : Nat) (lb : Array Value) (so : Cel → Bool) (w : World) (S : Nat → Prop) (h : LinsR w S v d) (he : EnvT w) (hs : Small d)
    (eg : ∀ args w, (callFunc g args).run Tryz.prog w = .ok (.enter g args) w)
    (hg : ∀ W x, Below w.heap.size w W → Calls Tryz.prog g (#[celV x] ++ lb) W fun e w' => e = .returned (.bool (so x)) ∧ Below W.heap.size W w') :
    Calls Tryz.prog 81 #[v, posV a, posV b, .func (.func g) #[] lb] w fun e w' => e = .returned (.tuple #[.int .i64 (cellsD d a b).length, .int .i64 ((cellsD d a b).countP so)]) ∧ Below w.heap.size w w' := by
  obtain ⟨va, vc, rfl⟩ := h.slice
  obtain ⟨W1, hW1⟩ : ∃ W1, (((((w.alloc (.cells #[.slice va d.length vc] 22)).alloc (.cells #[.int .i64 a.line, .int .i64 a.col] 24)).alloc (.cells #[.int .i64 b.line, .int .i64 b.col] 24)).alloc (.cells #[.func (.func g) #[] lb] 86)).alloc (.cells #[.int .i64 0] 3)).alloc (.cells #[.int .i64 0] 3) = W1 := ⟨_, rfl⟩
  have hB : Below w.heap.size w W1 := hW1 ▸ ((((((Below.refl _ _).alloc (Nat.le_refl _) _).alloc (by simp) _).alloc (by simp; omega) _).alloc (by simp; omega) _).alloc (by simp; omega) _).alloc (by simp; omega) _
  have hz : W1.heap.size = w.heap.size + 6 := by rw [← hW1]; simp
  have k0 : W1.heap[w.heap.size]? = some (.cells #[.slice va d.length vc] 22) := hW1 ▸ heap_old _ _ (heap_old _ _ (heap_old _ _ (heap_old _ _ (heap_old _ _ (heap_new _ _ rfl)))))
  have k1 : W1.heap[w.heap.size + 1]? = some (.cells #[.int .i64 a.line, .int .i64 a.col] 24) := hW1 ▸ heap_old _ _ (heap_old _ _ (heap_old _ _ (heap_old _ _ (heap_new _ _ (by simp)))))
  have k2 : W1.heap[w.heap.size + 2]? = some (.cells #[.int .i64 b.line, .int .i64 b.col] 24) := hW1 ▸ heap_old _ _ (heap_old _ _ (heap_old _ _ (heap_new _ _ (by simp))))
  have k3 : W1.heap[w.heap.size + 3]? = some (.cells #[.func (.func g) #[] lb] 86) := hW1 ▸ heap_old _ _ (heap_old _ _ (heap_new _ _ (by simp)))
  have k4 : W1.heap[w.heap.size + 4]? = some (.cells #[.int .i64 0] 3) := hW1 ▸ heap_old _ _ (heap_new _ _ (by simp))
  have k5 : W1.heap[w.heap.size + 5]? = some (.cells #[.int .i64 0] 3) := hW1 ▸ heap_new _ _ (by simp)
  have HC1 := Lib.hid (docSpan_any _ d a b W1 S (h.below (rdLin_stable _) hB) (he.below hB) hs)
  have HK : Hid (∀ W, Below W1.heap.size W1 W → W.heap[w.heap.size]? = some (.cells #[.slice va d.length vc] 22) ∧ W.heap[w.heap.size + 1]? = some (.cells #[.int .i64 a.line, .int .i64 a.col] 24) ∧ W.heap[w.heap.size + 2]? = some (.cells #[.int .i64 b.line, .int .i64 b.col] 24) ∧
    W.heap[w.heap.size + 3]? = some (.cells #[.func (.func g) #[] lb] 86) ∧ W.heap[w.heap.size + 4]? = some (.cells #[.int .i64 0] 3) ∧ W.heap[w.heap.size + 5]? = some (.cells #[.int .i64 0] 3)) := Lib.hid fun W hW => ⟨heap_below hW k0, heap_below hW k1, heap_below hW k2, heap_below hW k3, heap_below hW k4, heap_below hW k5⟩
  have HP : Hid (∀ p : Ps, posV p = .agg #[.int .i64 p.line, .int .i64 p.col]) := Lib.hid fun _ => rfl
  have H1 := Lib.hid hB
  have HL := Lib.hid h
  have HG := Lib.hid hg
  have HS := Lib.hid hs
  have hs1 := hB.size
  obtain ⟨p0, f0⟩ := blk k0
  obtain ⟨p1, f1⟩ := blk k1
  obtain ⟨p2, f2⟩ := blk k2
  obtain ⟨p3, f3⟩ := blk k3
  obtain ⟨p4, f4⟩ := blk k4
  obtain ⟨p5, f5⟩ := blk k5
  clear h he hs hg k0 k1 k2 k3 k4 k5 hB
  cases hsp : spanD d a b
  · have HR : Hid (cellsD d a b = []) := Lib.hid (by unfold cellsD; rw [hsp]; rfl)
    rw [hsp] at HC1
    clear hsp
    rw [HP.out a, HP.out b] at HC1 ⊢
    go_enter Tryz.func81, Tryz.ntmps81
    go_wp2_with (go_at_call 90; refine HC1.out.mono ?_; rintro e w2 ⟨rfl, hb2⟩; obtain ⟨q4, g4⟩ := blk (HK.out _ hb2).2.2.2.2.1; obtain ⟨q5, g5⟩ := blk (HK.out _ hb2).2.2.2.2.2)
    refine bodyPost_ret (results_ints2 rfl _ _ ⟨w.heap.size + 1 + 1 + 1 + 1, 0, none⟩ ⟨w.heap.size + 1 + 1 + 1 + 1 + 1, 0, none⟩ 0 0 rfl rfl ((setCell_block (by omega)).trans (setCell_same (q4 0))) (setCell_same ((setCell_block (by omega)).trans (q5 0)))) rfl ?_
    rw [HR.out]
    exact ⟨rfl, ((H1.out.trans (hb2.mono hs1)).setCell (by simp; omega) _).setCell (by simp; omega) _⟩
  · obtain ⟨_, i, j, p, q, l, m, rfl, rfl, hl, hm, hp, hq, hij, hpq⟩ := span_at hsp
    have hjl := (List.getElem?_eq_some_iff.1 hm).1
    have HR : Hid (cellsD d ⟨i, p⟩ ⟨j, q⟩ = cellsL d (rowsTo d i p j q (j + 1))) := Lib.hid (by unfold cellsD; rw [hsp, if_pos rfl]; rfl)
    have HOK : Hid (∀ k, i ≤ k → k ≤ j → RowOk d (rowB d i p j q k)) := Lib.hid fun k h1 h2 => rowB_ok hl hm hp hq hpq h1 h2
    rw [hsp] at HC1
    clear hsp hl hm hp hq hpq
    rw [HP.out, HP.out] at HC1 ⊢
    refine (callsIn_wide (n := 6)).1 ?_
    refine callsIn_of_wp_marks Tryz.func81 rfl trivial ?_ rfl
    simp only [Tryz.ntmps81, List.size_toArray, List.length_cons, List.length_nil, Nat.reduceAdd, Nat.reduceSub, Array.replicate_succ, Array.replicate_zero, List.push_toArray, List.append_toArray, List.nil_append, List.cons_append]
    have hwf : ∀ f, Fence.wide.fn f := fun _ => trivial
    have hwd : Fence.wide.depth = none := rfl
    gi_wp2_with (first
      | (gi_at_call 90; refine (callsIn_wide.2 HC1.out).mono ?_; rintro e w2 ⟨rfl, hb2⟩; obtain ⟨q0, g0⟩ := blk (HK.out _ hb2).1; obtain ⟨q1, g1⟩ := blk (HK.out _ hb2).2.1; obtain ⟨q2, g2⟩ := blk (HK.out _ hb2).2.2.1)
      | (gi_at_call 93; refine (callsIn_wide.2 (between_any _ _ _ _ _ _ _ _)).mono ?_; rintro e w3 ⟨rfl, rfl⟩))
    obtain ⟨w3, hw3⟩ : ∃ w3, ((w2.alloc (.cells #[.slice va d.length vc] 22)).alloc (.cells #[.int .i64 i, .int .i64 p] 24)).alloc (.cells #[.int .i64 j, .int .i64 q] 24) = w3 := ⟨_, rfl⟩
    rw [hw3]
    obtain ⟨t0, t1, t2, t3, t4, t5⟩ := HK.out _ hb2
    have hw2 := hb2.size
    have hb23 : Below w2.heap.size w2 w3 := hw3 ▸ (((Below.refl _ _).alloc (Nat.le_refl _) _).alloc (by simp) _).alloc (by simp; omega) _
    have hz3 : w3.heap.size = w2.heap.size + 3 := by rw [← hw3]; simp
    have n0 : w3.heap[w2.heap.size]? = some (.cells #[.slice va d.length vc] 22) := hw3 ▸ heap_old _ _ (heap_old _ _ (heap_new _ _ rfl))
    have n1 : w3.heap[w2.heap.size + 1]? = some (.cells #[.int .i64 i, .int .i64 p] 24) := hw3 ▸ heap_old _ _ (heap_new _ _ (by simp))
    have n2 : w3.heap[w2.heap.size + 2]? = some (.cells #[.int .i64 j, .int .i64 q] 24) := hw3 ▸ heap_new _ _ (by simp)
    have hb3 : Below w.heap.size w w3 := H1.out.trans ((below_from hb2 hb23).mono hs1)
    have hTI : TI d so (.slice va d.length vc) (.func (.func g) #[] lb) w w3.heap.size [] w3 := ⟨heap_below hb23 t4, heap_below hb23 t5, heap_below hb23 t0, heap_below hb23 t3, hb3, Nat.le_refl _⟩
    clear hw3 q0 q1 q2 g0 g1 g2 p0 p1 p2 p3 p4 p5 f0 f1 f2 f3 f4 f5 t0 t1 t2 t3 t4 t5 hW1
    have N0 := Lib.hid (And.intro n0 (And.intro n1 n2))
    clear n0 n1 n2
    refine rangeFunc_box rfl (by omega) (gf := 125) (lb := #[.pointer (some ⟨w2.heap.size + 1, 0, none⟩), .pointer (some ⟨w2.heap.size + 2, 0, none⟩), .pointer (some ⟨w2.heap.size, 0, none⟩)]) rfl trivial (enters_of Tryz.func125 (by kernel_rfl) rfl)
      (encs := rowEnc (d := d)) (n₀ := w.heap.size) (base := w2.heap.size) (S := fun ys => ys.map (·.1) = rowsTo d i p j q (j + 1)) (Sp := fun _ => True) (N := 200000) (w0 := w3) ?seq (by omega) (Below.refl _ _) (fun _ => rfl)
      (TI d so (.slice va d.length vc) (.func (.func g) #[] lb) w w3.heap.size) (fun _ _ _ => False) (ti_own (by omega)) (fun _ _ _ _ _ hs _ _ => hs) hTI (fun _ _ h => h.2.2.2.2.2)
      (fun x => #[.int .i64 x.1.2.1, .int .i64 x.1.2.2]) 96 ?act ?assign ?body ?done ?stop
    case seq =>
      intro l J Jx W hW hJ _ hY h0
      exact between1_in 5 l w2.heap.size (w2.heap.size + 1) (w2.heap.size + 2) w2.heap.size (.slice va d.length vc) d i p j q S J Jx w W HL.out (hb3.trans (hW.mono hb3.size)) ⟨by omega, by omega, by omega⟩ (heap_below hW N0.out.1) (heap_below hW N0.out.2.1) (heap_below hW N0.out.2.2) hij hjl HOK.out HS.out.2.1 hJ hY h0
    case assign =>
      intro l pre x W K Bx hBx hI hK
      gi_wp2
      rw [← hBx]
      exact hK
    case body =>
      intro l pre x Bx W hI hBx hbx hlt
      have HI := Lib.hid hI
      obtain ⟨b4, b5, t0, t3, hb, hz⟩ := hI
      obtain ⟨ln, hln, hft, htl⟩ := x.2
      have hci := cellsB_at hln
      obtain ⟨xi, exi⟩ : ∃ z, x.1.1 = z := ⟨_, rfl⟩
      obtain ⟨xf, exf⟩ : ∃ z, x.1.2.1 = z := ⟨_, rfl⟩
      obtain ⟨xt, ext⟩ : ∃ z, x.1.2.2 = z := ⟨_, rfl⟩
      rw [exf, ext] at hci hft hbx
      rw [exi] at hln
      rw [ext] at htl
      rw [exi, exf, ext]
      have HCI := Lib.hid hci
      clear exi exf ext hci
      have HLN := Lib.hid hln
      have hil := (List.getElem?_eq_some_iff.1 hln).1
      obtain ⟨va', vc', hve, hvc, hvm, hx⟩ := lins_shape HL.out
      cases hve
      obtain ⟨bb, o, la, lc, ca, cc, rfl, hAk⟩ := hx xi ln hln
      obtain ⟨_, _, _, _, c3, _, _⟩ := hAk.below hb
      have hcr := hAk.cellsR
      have hccl := hcr.len
      have HCR := Lib.hid hcr
      have HBB := Lib.hid (And.intro b4 (And.intro b5 (And.intro t0 t3)))
      obtain ⟨p0, f0⟩ := blk t0
      obtain ⟨p6, f6⟩ := blk hbx
      unfold maxLen at hvm hccl
      clear hln hx hAk hcr b4 b5 t0 t3 hbx
      have i0 : (0 : Int) ≤ (xi : Int) := Int.natCast_nonneg _
      have i1 : (xi : Int) < (d.length : Int) := by omega
      have u0 : (0 : Int) ≤ (xf : Int) := Int.natCast_nonneg _
      have u1 : (xf : Int) ≤ (xt : Int) := by omega
      have u2 : (xt : Int) ≤ (cc : Int) := by omega
      have hA1 := cellsL_le HS.out.1 (pre.map (·.1))
      rw [List.length_map] at hA1
      obtain ⟨A, hA⟩ : ∃ A, (cellsL d (pre.map (·.1))).length = A := ⟨_, rfl⟩
      obtain ⟨C, hC⟩ : ∃ C, (cellsL d (pre.map (·.1))).countP so = C := ⟨_, rfl⟩
      have hCA : C ≤ A := by rw [← hA, ← hC]; exact List.countP_le_length
      have hA2 : A ≤ 20000000000 := by omega
      obtain ⟨row, hrow⟩ : ∃ row, cellsB d x.1 = row := ⟨_, rfl⟩
      have HSN : Hid ((cellsL d ((pre ++ [x]).map (·.1))).length = A + row.length ∧ (cellsL d ((pre ++ [x]).map (·.1))).countP so = C + row.countP so) := Lib.hid (by rw [List.map_append, List.map_singleton, cellsL_snoc, hrow, List.length_append, List.countP_append, hA, hC]; exact ⟨rfl, rfl⟩)
      have hn1 : row.length ≤ 100000 := hrow ▸ cellsB_le HS.out.1 x.1
      have hrl : row.length = xt - xf := by rw [← hrow, HCI.out, List.length_take, List.length_drop]; omega
      have hpair : ∃ X, Hid (∀ W', Below w.heap.size w W' → CelsR false W' S (.slice X (xt - xf) (cc - xf)) row) ∧ ((cc = xf ∧ ca = X) ∨ (¬ cc = xf ∧ ca.map (·.add (xf * 3)) = X)) := by
        have hh : ∀ W', Below w.heap.size w W' → CelsR false W' S (sliced ca xf xt cc 3) row := fun W' hW => by
          rw [← hrow, HCI.out]
          exact (SliceR.below (rdOf_stable _) HCR.out hW).part (i := xf) (j := xt) (m := cc) hft htl (by omega) (Nat.le_refl _)
        by_cases hcq : cc = xf
        · exact ⟨ca, fun W hW => by have := hh W hW; simpa only [sliced, if_pos hcq] using this, .inl ⟨hcq, rfl⟩⟩
        · exact ⟨_, fun W hW => by have := hh W hW; simpa only [sliced, if_neg hcq] using this, .inr ⟨hcq, rfl⟩⟩
      rw [hA, hC] at HBB
      obtain ⟨X, HP2, hcq⟩ := hpair
      have hbz := hb.size
      have HGG : Hid (∀ W x, Below w.heap.size w W → Calls Tryz.prog g (#[.agg #[.int .i32 x.r, .int .i64 x.bits, .string ⟨x.href.toArray⟩]] ++ lb) W fun e w' => e = .returned (.bool (so x)) ∧ Below W.heap.size W w') := HG
      clear hA hC hrow HI HCR HCI HG HL
      obtain ⟨nl, hnl⟩ : ∃ nl, xt - xf = nl := ⟨_, rfl⟩
      rw [hnl] at HP2 hrl
      rcases hcq with ⟨hcq, hX⟩ | ⟨hcq, hX⟩
      · subst hcq ; obtain rfl : xt = cc := (by omega) ; obtain rfl : nl = 0 := (by omega)
        gi_wp2_with fail
        refine wpIn_region_quietR (by kernel_rfl) (by kernel_rfl) (by kernel_rfl) ?_
        repeat (quiet_step_in (fail))
        refine wpQuietIn_nil ?_
        intro _ hw'
        obtain ⟨nq, rfl⟩ := hw'
        gi_wp2_with fail
        gi_loopw [36, 13] (fun z _ wr => ∃ m : Nat, m ≤ 0 ∧ z = .int .i64 m ∧ Hid (Boxed wr (w.heap.size + 4) 3 (.int .i64 ((A + m : Nat) : Int)) ∧ Boxed wr (w.heap.size + 5) 3 (.int .i64 ((C + (row.take m).countP so : Nat) : Int)) ∧ wr.heap[w.heap.size]? = some (.cells #[.slice (some ⟨bb, o, none⟩) d.length vc] 22) ∧ wr.heap[w.heap.size + 3]? = some (.cells #[.func (.func g) #[] lb] 86)) ∧ Hid (KeepsFrom w3.heap.size W wr ∧ Kp w.heap.size w2.heap.size W wr ∧ Below w.heap.size w wr)) (fun z _ _ => 0 - (intOf z).toNat)
        case atStart => exact ⟨0, Nat.zero_le _, rfl, HBB, Lib.hid ⟨((keeps_below (drewN_below (Below.refl _ _))).from _), Kp.of_below hbz (drewN_below (Below.refl _ _)), drewN_below hb⟩⟩
        case round =>
          obtain ⟨m, hm, rfl, HBX, HKK⟩ := hrel
          obtain ⟨q3, g3⟩ := blk HBX.out.2.2.2
          obtain ⟨q4, g4⟩ := blk HBX.out.1
          obtain ⟨q5, g5⟩ := blk HBX.out.2.1
          have hzr : w.heap.size + 6 ≤ wr.heap.size := by have := HKK.out.1.size; omega
          obtain ⟨cm, hcm⟩ : ∃ cm, (row.take m).countP so = cm := ⟨_, rfl⟩
          have hcm5 : cm ≤ 100000 := by rw [← hcm]; exact Nat.le_trans List.countP_le_length (by rw [List.length_take]; omega)
          rw [hcm] at HBX
          by_cases hlt2 : m < 0
          · exact absurd hlt2 (Nat.not_lt_zero _)
            all_goals
              obtain ⟨c, hc, _⟩ := getOf row m (by omega)
              have q3a : ∀ ob, (wr.alloc ob).cell? ⟨w.heap.size + 1 + 1 + 1, 0, none⟩ = some (.func (.func g) #[] lb) := fun ob => (World.cell?_of_block (heap_alloc_old _ _ (by show w.heap.size + 1 + 1 + 1 < _; omega))).trans (q3 0)
              have q4a : ∀ ob, (wr.alloc ob).cell? ⟨w.heap.size + 1 + 1 + 1 + 1, 0, none⟩ = some (.int .i64 ((A + m : Nat) : Int)) := fun ob => (World.cell?_of_block (heap_alloc_old _ _ (by show w.heap.size + 1 + 1 + 1 + 1 < _; omega))).trans (q4 0)
              have g4a : ∀ ob, (wr.alloc ob).frozen? ⟨w.heap.size + 1 + 1 + 1 + 1, 0, none⟩ = false := fun ob => frozen_of_heap ((heap_alloc_old _ _ (by show w.heap.size + 1 + 1 + 1 + 1 < _; omega)).trans HBX.out.1)
              have ne4 : ¬ w.heap.size + 1 + 1 + 1 + 1 = wr.heap.size := by omega
              have ne4' : ¬ wr.heap.size = w.heap.size + 1 + 1 + 1 + 1 := by omega
              obtain ⟨X', c', hXe, _, _, hcx⟩ := cels_shape (HP2.out wr HKK.out.2.2)
              cases hXe
              obtain ⟨bc, oc, rfl, hzc, k0, k1, k2⟩ := hcx m c hc
              obtain ⟨sb, hsb⟩ : ∃ sb, so c = sb := ⟨_, rfl⟩
              have HCL : Hid (∀ W, Below w.heap.size w W → Calls Tryz.prog g (#[.agg #[.int .i32 c.r, .int .i64 c.bits, .string ⟨c.href.toArray⟩]] ++ lb) W fun e w' => e = .returned (.bool sb) ∧ Below W.heap.size W w') := Lib.hid (by intro W hW; have := HGG.out W c hW; rwa [hsb] at this)
              have j0 : (0 : Int) ≤ (m : Int) := Int.natCast_nonneg _
              clear hcx
              gi_wp2_with fail
              obtain ⟨w4, hw4⟩ : ∃ w4, ((wr.alloc (.cells #[.int .i32 c.r, .int .i64 c.bits, .string ⟨c.href.toArray⟩] 58)).setCell ⟨w.heap.size + 1 + 1 + 1 + 1, 0, none⟩ (.int .i64 ((A : Int) + (m : Int) + 1))) = w4 := ⟨_, rfl⟩
              rw [hw4]
              have hk4 : KeepsFrom w3.heap.size W w4 ∧ Kp w.heap.size w2.heap.size W w4 ∧ Below w.heap.size w w4 := hw4 ▸ ⟨HKK.out.1.trans (((KeepsOthers.alloc _ _).trans (KeepsOthers.setCell _ _ _)).from _), HKK.out.2.1.t ((Kp.of_below (by omega) ((Below.refl _ _).alloc (Nat.le_refl _) _)).t (Kp.setCell _ (by omega) (by omega) _)), (HKK.out.2.2.alloc (by omega) _).setCell (by show w.heap.size ≤ w.heap.size + 1 + 1 + 1 + 1; omega) _⟩
              have e4 : w4.heap[w.heap.size + 4]? = some (.cells #[.int .i64 ((A : Int) + (m : Int) + 1)] 3) := by
                rw [← hw4, heap_set, if_pos rfl, heap_alloc_old _ _ (by omega), show wr.heap[w.heap.size + 4]? = _ from HBX.out.1]; rfl
              have e5 : w4.heap[w.heap.size + 5]? = some (.cells #[.int .i64 ((C + cm : Nat) : Int)] 3) := by
                rw [← hw4, heap_set, if_neg (by show ¬ w.heap.size + 1 + 1 + 1 + 1 = _; omega), heap_alloc_old _ _ (by omega)]; exact HBX.out.2.1
              have e0 : w4.heap[w.heap.size]? = some (.cells #[.slice (some ⟨bb, o, none⟩) d.length vc] 22) := by
                rw [← hw4, heap_set, if_neg (by show ¬ w.heap.size + 1 + 1 + 1 + 1 = _; omega), heap_alloc_old _ _ (by omega)]; exact HBX.out.2.2.1
              have e3 : w4.heap[w.heap.size + 3]? = some (.cells #[.func (.func g) #[] lb] 86) := by
                rw [← hw4, heap_set, if_neg (by show ¬ w.heap.size + 1 + 1 + 1 + 1 = _; omega), heap_alloc_old _ _ (by omega)]; exact HBX.out.2.2.2
              refine (CallsIn.inRound l (callsIn_wide.2 (HCL.out _ hk4.2.2))).mono ?_
              rintro e w5 ⟨rfl, hb5⟩
              have hk5 : KeepsFrom w3.heap.size W w5 ∧ Kp w.heap.size w2.heap.size W w5 ∧ Below w.heap.size w w5 := ⟨hk4.1.trans ((keeps_below hb5).from _), hk4.2.1.t (Kp.of_below hk4.2.2.size hb5), below_from hk4.2.2 hb5⟩
              have y4 := heap_below hb5 e4
              have y5 := heap_below hb5 e5
              have y0 := heap_below hb5 e0
              have y3 := heap_below hb5 e3
              have hcs : (row.take (m + 1)).countP so = cm + (if sb = true then 1 else 0) := by
                rw [take_some hc, List.countP_append, hcm, List.countP_singleton, hsb]
              have HK5 := Lib.hid hk5
              have HY := Lib.hid (And.intro y4 (And.intro y5 (And.intro y0 y3)))
              have HCS := Lib.hid hcs
              have q5a : w5.cell? ⟨w.heap.size + 1 + 1 + 1 + 1 + 1, 0, none⟩ = some (.int .i64 ((C + cm : Nat) : Int)) := cell_of_heap y5
              have g5a : w5.frozen? ⟨w.heap.size + 1 + 1 + 1 + 1 + 1, 0, none⟩ = false := frozen_of_heap y5
              clear hw4 hk4 hk5 e0 e3 e4 e5 y0 y3 y4 y5 hb5 q3 g3 q4 g4 q5 g5 q3a q4a g4a hc hcs hsb k0 k1 k2 hzc
              cases sb
              · gi_wp2_with fail
                go_roundw
                case rel =>
                  refine ⟨m + 1, by omega, by go_num, Lib.hid ⟨?_, ?_, HY.out.2.2.1, HY.out.2.2.2⟩, HK5⟩
                  · rw [show ((A + (m + 1) : Nat) : Int) = (A : Int) + (m : Int) + 1 by omega]; exact HY.out.1
                  · rw [HCS.out]; exact HY.out.2.1
                case measure => simp [intOf]; omega
              · gi_wp2_with fail
                go_roundw
                case rel =>
                  refine ⟨m + 1, by omega, by go_num, Lib.hid ⟨?_, ?_, ?_, ?_⟩, Lib.hid ⟨HK5.out.1.trans ((KeepsOthers.setCell _ _ _).from _), HK5.out.2.1.t (Kp.setCell _ (by omega) (by omega) _), HK5.out.2.2.setCell (by show w.heap.size ≤ w.heap.size + 1 + 1 + 1 + 1 + 1; omega) _⟩⟩
                  · unfold Boxed
                    rw [heap_set, if_neg (by show ¬ w.heap.size + 1 + 1 + 1 + 1 + 1 = _; omega), show ((A + (m + 1) : Nat) : Int) = (A : Int) + (m : Int) + 1 by omega]; exact HY.out.1
                  · unfold Boxed
                    rw [HCS.out, heap_set, if_pos rfl, HY.out.2.1]
                    simp [putIn]
                    omega
                  · rw [heap_set, if_neg (by show ¬ w.heap.size + 1 + 1 + 1 + 1 + 1 = _; omega)]; exact HY.out.2.2.1
                  · rw [heap_set, if_neg (by show ¬ w.heap.size + 1 + 1 + 1 + 1 + 1 = _; omega)]; exact HY.out.2.2.2
                case measure => simp [intOf]; omega
          · obtain rfl : m = 0 := by omega
            gi_wp2_with fail
            have ht : row.take 0 = row := List.take_of_length_le (by omega)
            rw [← hcm, ht] at HBX
            exact ⟨HKK.out.1, HKK.out.2.1, by rw [HSN.out.1, show row.length = 0 by omega]; exact HBX.out.1, by rw [HSN.out.2]; exact HBX.out.2.1, HBX.out.2.2.1, HBX.out.2.2.2, HKK.out.2.2, by have := HKK.out.1.size; omega⟩
      · skip
        gi_wp2_with fail
        refine wpIn_region_quietR (by kernel_rfl) (by kernel_rfl) (by kernel_rfl) ?_
        repeat (quiet_step_in (fail))
        refine wpQuietIn_nil ?_
        intro _ hw'
        obtain ⟨nq, rfl⟩ := hw'
        gi_wp2_with fail
        gi_loopw [36, 13] (fun z _ wr => ∃ m : Nat, m ≤ nl ∧ z = .int .i64 m ∧ Hid (Boxed wr (w.heap.size + 4) 3 (.int .i64 ((A + m : Nat) : Int)) ∧ Boxed wr (w.heap.size + 5) 3 (.int .i64 ((C + (row.take m).countP so : Nat) : Int)) ∧ wr.heap[w.heap.size]? = some (.cells #[.slice (some ⟨bb, o, none⟩) d.length vc] 22) ∧ wr.heap[w.heap.size + 3]? = some (.cells #[.func (.func g) #[] lb] 86)) ∧ Hid (KeepsFrom w3.heap.size W wr ∧ Kp w.heap.size w2.heap.size W wr ∧ Below w.heap.size w wr)) (fun z _ _ => nl - (intOf z).toNat)
        case atStart => exact ⟨0, Nat.zero_le _, rfl, HBB, Lib.hid ⟨((keeps_below (drewN_below (Below.refl _ _))).from _), Kp.of_below hbz (drewN_below (Below.refl _ _)), drewN_below hb⟩⟩
        case round =>
          obtain ⟨m, hm, rfl, HBX, HKK⟩ := hrel
          obtain ⟨q3, g3⟩ := blk HBX.out.2.2.2
          obtain ⟨q4, g4⟩ := blk HBX.out.1
          obtain ⟨q5, g5⟩ := blk HBX.out.2.1
          have hzr : w.heap.size + 6 ≤ wr.heap.size := by have := HKK.out.1.size; omega
          obtain ⟨cm, hcm⟩ : ∃ cm, (row.take m).countP so = cm := ⟨_, rfl⟩
          have hcm5 : cm ≤ 100000 := by rw [← hcm]; exact Nat.le_trans List.countP_le_length (by rw [List.length_take]; omega)
          rw [hcm] at HBX
          by_cases hlt2 : m < nl
          · skip
            all_goals
              obtain ⟨c, hc, _⟩ := getOf row m (by omega)
              have q3a : ∀ ob, (wr.alloc ob).cell? ⟨w.heap.size + 1 + 1 + 1, 0, none⟩ = some (.func (.func g) #[] lb) := fun ob => (World.cell?_of_block (heap_alloc_old _ _ (by show w.heap.size + 1 + 1 + 1 < _; omega))).trans (q3 0)
              have q4a : ∀ ob, (wr.alloc ob).cell? ⟨w.heap.size + 1 + 1 + 1 + 1, 0, none⟩ = some (.int .i64 ((A + m : Nat) : Int)) := fun ob => (World.cell?_of_block (heap_alloc_old _ _ (by show w.heap.size + 1 + 1 + 1 + 1 < _; omega))).trans (q4 0)
              have g4a : ∀ ob, (wr.alloc ob).frozen? ⟨w.heap.size + 1 + 1 + 1 + 1, 0, none⟩ = false := fun ob => frozen_of_heap ((heap_alloc_old _ _ (by show w.heap.size + 1 + 1 + 1 + 1 < _; omega)).trans HBX.out.1)
              have ne4 : ¬ w.heap.size + 1 + 1 + 1 + 1 = wr.heap.size := by omega
              have ne4' : ¬ wr.heap.size = w.heap.size + 1 + 1 + 1 + 1 := by omega
              obtain ⟨X', c', hXe, _, _, hcx⟩ := cels_shape (HP2.out wr HKK.out.2.2)
              cases hXe
              obtain ⟨bc, oc, rfl, hzc, k0, k1, k2⟩ := hcx m c hc
              obtain ⟨sb, hsb⟩ : ∃ sb, so c = sb := ⟨_, rfl⟩
              have HCL : Hid (∀ W, Below w.heap.size w W → Calls Tryz.prog g (#[.agg #[.int .i32 c.r, .int .i64 c.bits, .string ⟨c.href.toArray⟩]] ++ lb) W fun e w' => e = .returned (.bool sb) ∧ Below W.heap.size W w') := Lib.hid (by intro W hW; have := HGG.out W c hW; rwa [hsb] at this)
              have j0 : (0 : Int) ≤ (m : Int) := Int.natCast_nonneg _
              clear hcx
              gi_wp2_with fail
              obtain ⟨w4, hw4⟩ : ∃ w4, ((wr.alloc (.cells #[.int .i32 c.r, .int .i64 c.bits, .string ⟨c.href.toArray⟩] 58)).setCell ⟨w.heap.size + 1 + 1 + 1 + 1, 0, none⟩ (.int .i64 ((A : Int) + (m : Int) + 1))) = w4 := ⟨_, rfl⟩
              rw [hw4]
              have hk4 : KeepsFrom w3.heap.size W w4 ∧ Kp w.heap.size w2.heap.size W w4 ∧ Below w.heap.size w w4 := hw4 ▸ ⟨HKK.out.1.trans (((KeepsOthers.alloc _ _).trans (KeepsOthers.setCell _ _ _)).from _), HKK.out.2.1.t ((Kp.of_below (by omega) ((Below.refl _ _).alloc (Nat.le_refl _) _)).t (Kp.setCell _ (by omega) (by omega) _)), (HKK.out.2.2.alloc (by omega) _).setCell (by show w.heap.size ≤ w.heap.size + 1 + 1 + 1 + 1; omega) _⟩
              have e4 : w4.heap[w.heap.size + 4]? = some (.cells #[.int .i64 ((A : Int) + (m : Int) + 1)] 3) := by
                rw [← hw4, heap_set, if_pos rfl, heap_alloc_old _ _ (by omega), show wr.heap[w.heap.size + 4]? = _ from HBX.out.1]; rfl
              have e5 : w4.heap[w.heap.size + 5]? = some (.cells #[.int .i64 ((C + cm : Nat) : Int)] 3) := by
                rw [← hw4, heap_set, if_neg (by show ¬ w.heap.size + 1 + 1 + 1 + 1 = _; omega), heap_alloc_old _ _ (by omega)]; exact HBX.out.2.1
              have e0 : w4.heap[w.heap.size]? = some (.cells #[.slice (some ⟨bb, o, none⟩) d.length vc] 22) := by
                rw [← hw4, heap_set, if_neg (by show ¬ w.heap.size + 1 + 1 + 1 + 1 = _; omega), heap_alloc_old _ _ (by omega)]; exact HBX.out.2.2.1
              have e3 : w4.heap[w.heap.size + 3]? = some (.cells #[.func (.func g) #[] lb] 86) := by
                rw [← hw4, heap_set, if_neg (by show ¬ w.heap.size + 1 + 1 + 1 + 1 = _; omega), heap_alloc_old _ _ (by omega)]; exact HBX.out.2.2.2
              refine (CallsIn.inRound l (callsIn_wide.2 (HCL.out _ hk4.2.2))).mono ?_
              rintro e w5 ⟨rfl, hb5⟩
              have hk5 : KeepsFrom w3.heap.size W w5 ∧ Kp w.heap.size w2.heap.size W w5 ∧ Below w.heap.size w w5 := ⟨hk4.1.trans ((keeps_below hb5).from _), hk4.2.1.t (Kp.of_below hk4.2.2.size hb5), below_from hk4.2.2 hb5⟩
              have y4 := heap_below hb5 e4
              have y5 := heap_below hb5 e5
              have y0 := heap_below hb5 e0
              have y3 := heap_below hb5 e3
              have hcs : (row.take (m + 1)).countP so = cm + (if sb = true then 1 else 0) := by
                rw [take_some hc, List.countP_append, hcm, List.countP_singleton, hsb]
              have HK5 := Lib.hid hk5
              have HY := Lib.hid (And.intro y4 (And.intro y5 (And.intro y0 y3)))
              have HCS := Lib.hid hcs
              have q5a : w5.cell? ⟨w.heap.size + 1 + 1 + 1 + 1 + 1, 0, none⟩ = some (.int .i64 ((C + cm : Nat) : Int)) := cell_of_heap y5
              have g5a : w5.frozen? ⟨w.heap.size + 1 + 1 + 1 + 1 + 1, 0, none⟩ = false := frozen_of_heap y5
              clear hw4 hk4 hk5 e0 e3 e4 e5 y0 y3 y4 y5 hb5 q3 g3 q4 g4 q5 g5 q3a q4a g4a hc hcs hsb k0 k1 k2 hzc
              cases sb
              · gi_wp2_with fail
                go_roundw
                case rel =>
                  refine ⟨m + 1, by omega, by go_num, Lib.hid ⟨?_, ?_, HY.out.2.2.1, HY.out.2.2.2⟩, HK5⟩
                  · rw [show ((A + (m + 1) : Nat) : Int) = (A : Int) + (m : Int) + 1 by omega]; exact HY.out.1
                  · rw [HCS.out]; exact HY.out.2.1
                case measure => simp [intOf]; omega
              · gi_wp2_with fail
                go_roundw
                case rel =>
                  refine ⟨m + 1, by omega, by go_num, Lib.hid ⟨?_, ?_, ?_, ?_⟩, Lib.hid ⟨HK5.out.1.trans ((KeepsOthers.setCell _ _ _).from _), HK5.out.2.1.t (Kp.setCell _ (by omega) (by omega) _), HK5.out.2.2.setCell (by show w.heap.size ≤ w.heap.size + 1 + 1 + 1 + 1 + 1; omega) _⟩⟩
                  · unfold Boxed
                    rw [heap_set, if_neg (by show ¬ w.heap.size + 1 + 1 + 1 + 1 + 1 = _; omega), show ((A + (m + 1) : Nat) : Int) = (A : Int) + (m : Int) + 1 by omega]; exact HY.out.1
                  · unfold Boxed
                    rw [HCS.out, heap_set, if_pos rfl, HY.out.2.1]
                    simp [putIn]
                    omega
                  · rw [heap_set, if_neg (by show ¬ w.heap.size + 1 + 1 + 1 + 1 + 1 = _; omega)]; exact HY.out.2.2.1
                  · rw [heap_set, if_neg (by show ¬ w.heap.size + 1 + 1 + 1 + 1 + 1 = _; omega)]; exact HY.out.2.2.2
                case measure => simp [intOf]; omega
          · obtain rfl : m = nl := by omega
            gi_wp2_with fail
            have ht : row.take m = row := List.take_of_length_le (by omega)
            rw [← hcm, ht] at HBX
            exact ⟨HKK.out.1, HKK.out.2.1, by rw [HSN.out.1, show row.length = m by omega]; exact HBX.out.1, by rw [HSN.out.2]; exact HBX.out.2.1, HBX.out.2.2.1, HBX.out.2.2.2, HKK.out.2.2, by have := HKK.out.1.size; omega⟩
    case done =>
      rintro D ys W hD hys ⟨b4, b5, t0, t3, hb, hz⟩ hK
      have q4 : W.cell? ⟨w.heap.size + 1 + 1 + 1 + 1, 0, none⟩ = some (.int .i64 (cellsL d (ys.map (·.1))).length) := b4.cell
      have q5 : W.cell? ⟨w.heap.size + 1 + 1 + 1 + 1 + 1, 0, none⟩ = some (.int .i64 ((cellsL d (ys.map (·.1))).countP so)) := b5.cell
      have g4 : W.frozen? ⟨w.heap.size + 1 + 1 + 1 + 1, 0, none⟩ = false := b4.frozen
      have g5 : W.frozen? ⟨w.heap.size + 1 + 1 + 1 + 1 + 1, 0, none⟩ = false := b5.frozen
      rw [hys] at q4 q5
      rw [← HR.out] at q4 q5
      obtain ⟨n1, hn1⟩ : ∃ n1, (cellsD d ⟨i, p⟩ ⟨j, q⟩).length = n1 := ⟨_, rfl⟩
      obtain ⟨n2, hn2⟩ : ∃ n2, (cellsD d ⟨i, p⟩ ⟨j, q⟩).countP so = n2 := ⟨_, rfl⟩
      rw [hn1] at q4
      rw [hn2] at q5
      gi_wp2
      gi_region
      gi_wp2
      obtain ⟨W9, hW9⟩ : ∃ W9, ((W.setCell ⟨w.heap.size + 1 + 1 + 1 + 1, 0, none⟩ (.int .i64 n1)).setCell ⟨w.heap.size + 1 + 1 + 1 + 1 + 1, 0, none⟩ (.int .i64 n2)).drew = W9 := ⟨_, rfl⟩
      have z0 : w3.heap.size = w3.heap.size := rfl
      have hK2 : W9.heap[D]? = some (.deferred (some [])) := by
        rw [← hW9]
        show ((W.setCell _ _).setCell _ _).heap[D]? = _
        rw [Below.heap_setCell _ _ _ _ (by simp; omega), Below.heap_setCell _ _ _ _ (by simp; omega)]
        exact hK
      have r1 : W9.cell? ⟨w.heap.size + 1 + 1 + 1 + 1, 0, none⟩ = some (.int .i64 n1) := hW9 ▸ (setCell_block (by omega)).trans (setCell_same q4)
      have r2 : W9.cell? ⟨w.heap.size + 1 + 1 + 1 + 1 + 1, 0, none⟩ = some (.int .i64 n2) := hW9 ▸ setCell_same ((setCell_block (by omega)).trans q5)
      have hB9 : Below w.heap.size w W9 := hW9 ▸ ((hb.setCell (by show w.heap.size ≤ w.heap.size + 1 + 1 + 1 + 1; omega) _).setCell (by show w.heap.size ≤ w.heap.size + 1 + 1 + 1 + 1 + 1; omega) _).drew
      rw [hW9]
      refine ⟨by simp, .inl ⟨_, _, rfl, run_takeDeferred hK2, ?_⟩⟩
      refine ⟨_, results_ints2 rfl _ _ ⟨w.heap.size + 1 + 1 + 1 + 1, 0, none⟩ ⟨w.heap.size + 1 + 1 + 1 + 1 + 1, 0, none⟩ n1 n2 rfl rfl ((World.cell?_of_block (World.putObj_heap_other (by simp; omega))).trans r1) ((World.cell?_of_block (World.putObj_heap_other (by simp; omega))).trans r2), by rw [hn1, hn2], hB9.trans (belowK_b (w := w) (Nat.le_refl _) W9 D _ _ (by omega) hK2 rfl rfl)⟩
    case stop =>
      rintro D c pre W _ _ h _
      exact h.elim
end Go.Proofs.YtfoiaoopbkcpoaaGreatDoor
namespace Go.Proofs.YtfoiaoopbkcpoaaGreatDoor
open Go.RowKit
open Go.Proofs.Qw

theorem count1_any (x : Cel) (w : World) : Calls Tryz.prog 85 #[celV x] w fun e w' => e = .returned (.bool false) ∧ Below w.heap.size w w' := by
  unfold celV
  go_enter Tryz.func85, Tryz.ntmps85
  go_wp2_with fail
  go_ret
  exact ⟨rfl, (Below.refl _ _).alloc (Nat.le_refl _) _⟩

theorem all1_any (B : Nat) (b : Int) (x : Cel) (w : World) (h : w.heap[B]? = some (.cells #[.int .i64 b] 3)) :
    Calls Tryz.prog 82 #[celV x, .pointer (some ⟨B, 0, none⟩)] w fun e w' => e = .returned (.bool (bits .and .i64 x.bits b == b)) ∧ Below w.heap.size w w' := by
  have hlt := (Array.getElem?_eq_some_iff.1 h).1
  obtain ⟨p, f⟩ := blk h
  have p2 : ∀ ob, (w.alloc ob).cell? ⟨B, 0, none⟩ = some (.int .i64 b) := fun ob => (World.cell?_of_block (heap_alloc_old _ _ hlt)).trans (p 0)
  have ne : ¬ B = w.heap.size := by omega
  unfold celV
  go_enter Tryz.func82, Tryz.ntmps82
  go_wp2_with fail
  go_ret
  exact ⟨rfl, (Below.refl _ _).alloc (Nat.le_refl _) _⟩
theorem some1_any (B : Nat) (b : Int) (x : Cel) (w : World) (h : w.heap[B]? = some (.cells #[.int .i64 b] 3)) :
    Calls Tryz.prog 84 #[celV x, .pointer (some ⟨B, 0, none⟩)] w fun e w' => e = .returned (.bool (bits .and .i64 x.bits b != 0)) ∧ Below w.heap.size w w' := by
  have hlt := (Array.getElem?_eq_some_iff.1 h).1
  obtain ⟨p, f⟩ := blk h
  have p2 : ∀ ob, (w.alloc ob).cell? ⟨B, 0, none⟩ = some (.int .i64 b) := fun ob => (World.cell?_of_block (heap_alloc_old _ _ hlt)).trans (p 0)
  have ne : ¬ B = w.heap.size := by omega
  unfold celV
  go_enter Tryz.func84, Tryz.ntmps84
  go_wp2_with fail
  go_ret
  exact ⟨rfl, (Below.refl _ _).alloc (Nat.le_refl _) _⟩

set_option maxRecDepth 100000 in
set_option maxHeartbeats 1000000 in
theorem docCount_any (v : Value) (d : Doc) (a b : Ps) (w : World) (S : Nat → Prop) (h : LinsR w S v d) (he : EnvT w) (hs : Small d) :
    Calls Tryz.prog 43 #[v, posV a, posV b] w fun e w' => e = .returned (.int .i64 (cellsD d a b).length) ∧ Below w.heap.size w w' := by
  obtain ⟨W1, hW1, hB, hz, hA1, hA2⟩ := two_pos w (.int .i64 a.line) (.int .i64 a.col) (.int .i64 b.line) (.int .i64 b.col)
  have HC := Lib.hid (tells_any v d a b 85 #[] (fun _ => false) W1 S (h.below (rdLin_stable _) hB) (he.below hB) hs (enters_of Tryz.func85 (by kernel_rfl) rfl) (fun W x _ => by simpa using count1_any x W))
  have HP : Hid (∀ p : Ps, posV p = .agg #[.int .i64 p.line, .int .i64 p.col]) := Lib.hid fun _ => rfl
  have H1 := Lib.hid hB
  have hs1 := hB.size
  obtain ⟨p1, f1⟩ := blk hA1
  obtain ⟨p2, f2⟩ := blk hA2
  obtain ⟨va, vc, rfl⟩ := h.slice
  clear h he hs hA1 hA2 hB
  generalize (cellsD d a b).length = n at *
  generalize (cellsD d a b).countP (fun _ => false) = m at *
  rw [HP.out a, HP.out b] at HC ⊢
  go_enter Tryz.func43, Tryz.ntmps43
  go_wp2_with (go_at_call 81; refine HC.out.mono ?_; rintro e w2 ⟨rfl, hb2⟩)
  go_ret
  exact ⟨rfl, H1.out.trans (hb2.mono hs1)⟩

/-- Two places and a number in three new blocks. -/
theorem two_pos1 (w : World) (a b c d e : Value) : ∃ W1, ((w.alloc (.cells #[a, b] 24)).alloc (.cells #[c, d] 24)).alloc (.cells #[e] 3) = W1 ∧ Below w.heap.size w W1 ∧ w.heap.size + 3 = W1.heap.size ∧
    W1.heap[w.heap.size]? = some (.cells #[a, b] 24) ∧ W1.heap[w.heap.size + 1]? = some (.cells #[c, d] 24) ∧ W1.heap[w.heap.size + 2]? = some (.cells #[e] 3) :=
  ⟨_, rfl, (((Below.refl _ _).alloc (Nat.le_refl _) _).alloc (by simp) _).alloc (by simp; omega) _, by simp, heap_old _ _ (heap_old _ _ (heap_new _ _ rfl)), heap_old _ _ (heap_new _ _ (by simp)), heap_new _ _ (by simp)⟩

set_option maxRecDepth 100000 in
set_option maxHeartbeats 1000000 in
theorem docAll_any (v : Value) (d : Doc) (a b : Ps) (t : Int) (w : World) (S : Nat → Prop) (SOF : Cel → Bool) (hso : SOF = (fun x => bits .and .i64 x.bits t == t)) (h : LinsR w S v d) (he : EnvT w) (hs : Small d) :
    Calls Tryz.prog 39 #[v, posV a, posV b, .int .i64 t] w fun e w' => e = .returned (.bool (decide (0 < (cellsD d a b).length) && decide ((cellsD d a b).countP SOF = (cellsD d a b).length))) ∧ Below w.heap.size w w' := by
  obtain ⟨W1, hW1, hB, hz, hA1, hA2, hA3⟩ := two_pos1 w (.int .i64 a.line) (.int .i64 a.col) (.int .i64 b.line) (.int .i64 b.col) (.int .i64 t)
  have HC := Lib.hid (tells_any v d a b 82 #[.pointer (some ⟨w.heap.size + 2, 0, none⟩)] SOF W1 S (h.below (rdLin_stable _) hB) (he.below hB) hs (enters_of Tryz.func82 (by kernel_rfl) rfl) (fun W x hW => by subst hso; simpa using all1_any _ t x W (heap_below hW hA3)))
  have HP : Hid (∀ p : Ps, posV p = .agg #[.int .i64 p.line, .int .i64 p.col]) := Lib.hid fun _ => rfl
  have H1 := Lib.hid hB
  have hs1 := hB.size
  obtain ⟨p1, f1⟩ := blk hA1
  obtain ⟨p2, f2⟩ := blk hA2
  obtain ⟨va, vc, rfl⟩ := h.slice
  clear h he hs hA1 hA2 hA3 hB hso
  generalize (cellsD d a b).length = n at *
  generalize (cellsD d a b).countP SOF = m at *
  rw [HP.out a, HP.out b] at HC ⊢
  go_enter Tryz.func39, Tryz.ntmps39
  go_wp2_with (go_at_call 81; refine HC.out.mono ?_; rintro e w2 ⟨rfl, hb2⟩)
  all_goals
    go_ret
    refine ⟨?_, H1.out.trans (hb2.mono hs1)⟩
    first
      | rfl
      | (show Ending.returned (Value.bool _) = Ending.returned (Value.bool _)
         refine congrArg (fun b => Ending.returned (Value.bool b)) ?_
         rw [Bool.eq_iff_iff]
         simp only [beq_iff_eq, Bool.and_eq_true, decide_eq_true_eq, Bool.false_eq_true, false_iff, not_and]
         omega)
set_option maxRecDepth 100000 in
set_option maxHeartbeats 1000000 in
theorem docSome_any (v : Value) (d : Doc) (a b : Ps) (t : Int) (w : World) (S : Nat → Prop) (SOF : Cel → Bool) (hso : SOF = (fun x => bits .and .i64 x.bits t != 0)) (h : LinsR w S v d) (he : EnvT w) (hs : Small d) :
    Calls Tryz.prog 41 #[v, posV a, posV b, .int .i64 t] w fun e w' => e = .returned (.bool (decide (0 < (cellsD d a b).countP SOF))) ∧ Below w.heap.size w w' := by
  obtain ⟨W1, hW1, hB, hz, hA1, hA2, hA3⟩ := two_pos1 w (.int .i64 a.line) (.int .i64 a.col) (.int .i64 b.line) (.int .i64 b.col) (.int .i64 t)
  have HC := Lib.hid (tells_any v d a b 84 #[.pointer (some ⟨w.heap.size + 2, 0, none⟩)] SOF W1 S (h.below (rdLin_stable _) hB) (he.below hB) hs (enters_of Tryz.func84 (by kernel_rfl) rfl) (fun W x hW => by subst hso; simpa using some1_any _ t x W (heap_below hW hA3)))
  have HP : Hid (∀ p : Ps, posV p = .agg #[.int .i64 p.line, .int .i64 p.col]) := Lib.hid fun _ => rfl
  have H1 := Lib.hid hB
  have hs1 := hB.size
  obtain ⟨p1, f1⟩ := blk hA1
  obtain ⟨p2, f2⟩ := blk hA2
  obtain ⟨va, vc, rfl⟩ := h.slice
  clear h he hs hA1 hA2 hA3 hB hso
  generalize (cellsD d a b).length = n at *
  generalize (cellsD d a b).countP SOF = m at *
  rw [HP.out a, HP.out b] at HC ⊢
  go_enter Tryz.func41, Tryz.ntmps41
  go_wp2_with (go_at_call 81; refine HC.out.mono ?_; rintro e w2 ⟨rfl, hb2⟩)
  all_goals
    go_ret
    refine ⟨?_, H1.out.trans (hb2.mono hs1)⟩
    first
      | rfl
      | (show Ending.returned (Value.bool _) = Ending.returned (Value.bool _)
         refine congrArg (fun b => Ending.returned (Value.bool b)) ?_
         rw [Bool.eq_iff_iff]
         simp only [beq_iff_eq, Bool.and_eq_true, decide_eq_true_eq, Bool.false_eq_true, false_iff, not_and]
         omega)
end Go.Proofs.YtfoiaoopbkcpoaaGreatDoor
