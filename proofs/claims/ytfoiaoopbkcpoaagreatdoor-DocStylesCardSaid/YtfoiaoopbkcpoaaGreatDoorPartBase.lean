/- A keeper for loops over a function whose body appends to a row: what lay below; the iterator's own boxes. -/
import Derived.Test.YtfoiaoopbkcpoaaGreatDoorTells
namespace Go.Proofs.YtfoiaoopbkcpoaaGreatDoor
open Go.RowKit
open Go.Proofs.Qw
attribute [local go_sem] Oper.semAt_some
attribute [local go_sem] Oper.semAt_some
structure Kb (n₀ base top : Nat) (W W' : World) : Prop where
  below : Below n₀ W W'
  cells : ∀ k o, base ≤ k → k < top → W.heap[k]? = some o → o.isCells = true → W'.heap[k]? = some o
theorem Kb.t {n₀ base top : Nat} {A B C : World} (h : Kb n₀ base top A B) (k : Kb n₀ base top B C) : Kb n₀ base top A C := ⟨h.below.trans k.below, fun i o hi ht ho hc => k.cells i o hi ht (h.cells i o hi ht ho hc) hc⟩
theorem Kb.of_kp {n₀ base top : Nat} {A B : World} (h : Kp n₀ base A B) : Kb n₀ base top A B := ⟨h.below, fun i o hi _ ho hc => h.cells i o hi ho hc⟩
theorem Kb.b {n₀ base top : Nat} {w : World} (hn : n₀ ≤ w.heap.size) (W : World) (l : Nat) (o o' : Obj) (hl : w.heap.size ≤ l) (h : W.heap[l]? = some o) (hc : o.isCells = false) (hw : o.isWalk = false) : Kb n₀ base top W (W.putObj l o') := .of_kp (Kp.b hn W l o o' hl h hc hw)
theorem Kb.of_below {n₀ base top : Nat} {W W' : World} (hn : n₀ ≤ W.heap.size) (hb : Below W.heap.size W W') : Kb n₀ base top W W' := .of_kp (.of_below hn hb)
theorem Kb.of_top {n₀ base top Z : Nat} {W W' : World} (hn : n₀ ≤ Z) (ht : top ≤ Z) (hb : Below Z W W') : Kb n₀ base top W W' := ⟨hb.mono hn, fun k _ _ hk h _ => (hb.block k (by omega)).trans h⟩
theorem Kb.setCell {n₀ base top : Nat} (W : World) {B o : Nat} (h1 : n₀ ≤ B) (h2 : B < base ∨ top ≤ B) (v : Value) : Kb n₀ base top W (W.setCell ⟨B, o, none⟩ v) :=
  ⟨(Below.refl _ _).setCell h1 _, fun k u hk ht h _ => by rw [Below.heap_setCell _ _ _ _ (by simp; omega)]; exact h⟩
theorem rangeFunc_boxB {P : Program} {F : Fence} {n : Nat} {α : Type} {g : Operand} {ps : Array Tmp} {assign body : Code} {Q : Exit → Act → World → Prop} {a : Act} {w : World}
    (hro : F.round = none) (h1 : 1 ≤ n) {gf : Nat} {lb : Array Value} (hg : a.eval g = .func (.func gf) #[] lb) (hFg : F.fn gf) (eg : ∀ args w, (callFunc gf args).run P w = .ok (.enter gf args) w)
    {encs : α → Array Value} {n₀ base top : Nat} {S Sp : List α → Prop} {N : Nat} {w0 : World} (hseq : SeqStopsK F (n - 1) P gf lb encs (Kb n₀ base top) S Sp N w0)
    (hn : n₀ ≤ w.heap.size) (hb0 : Below w0.heap.size w0 w) (hps : ∀ x, (encs x).size = ps.size)
    (I : List α → World → Prop) (Ix : Code → List α → World → Prop) (hI : OwnFrom w.heap.size I) (hIx : ∀ c, OwnFrom w.heap.size (Ix c)) (h0 : I [] w) (hIz : ∀ pre W, I pre W → w.heap.size ≤ W.heap.size)
    (rc : α → Array Value) (rt : TypeId) (act : Nat → α → Act)
    (hassign : ∀ (l : Nat) (pre : List α) (x : α) (W : World) (K : Act → World → Prop) (Bx : Nat), Bx = W.heap.size → I pre W → K (act Bx x) (W.alloc (.cells (rc x) rt)) →
      assign.wpIn (F.inRound l) (n - 1 - 1) P (Exit.then K (fun _ _ _ => False)) { tmps := (ps.zip (encs x)).foldl (fun t (p, v) => t.setIfInBounds p v) a.tmps, defers := [] } W)
    (hbody : ∀ (l : Nat) (pre : List α) (x : α) (Bx : Nat) (W : World), I pre W → w.heap.size ≤ Bx → W.heap[Bx]? = some (.cells (rc x) rt) → pre.length < N → body.wpIn (F.inRound l) (n - 1 - 1) P (ownPostG w.heap.size (Kb n₀ base top) I Ix (pre ++ [x]) W) (act Bx x) W)
    (hdone : ∀ (D : Nat) (xs : List α) (W : World), w.heap.size ≤ D → S xs → I xs W → W.heap[D]? = some (.deferred (some [])) → Q .normal { a with defers := { target := .collected D, args := #[] } :: a.defers } W)
    (hstop : ∀ (D : Nat) (c : Code) (pre : List α) (W : World), w.heap.size ≤ D → Sp pre → Ix c pre W → W.heap[D]? = some (.deferred (some [])) → c.wpIn F n P Q { a with defers := { target := .collected D, args := #[] } :: a.defers } W) :
    (Code.rangeFunc g ps assign body).wpIn F n P Q a w := by
  refine wpIn_rangeFunc_ownH hro h1 hg hFg eg hseq (fun h k => h.t k) (Kb.b hn) hb0 hps I Ix hI hIx h0
    (fun x a' W => ∃ Bx, w.heap.size ≤ Bx ∧ W.heap[Bx]? = some (.cells (rc x) rt) ∧ a' = act Bx x) ?_ ?_ ?_ hdone hstop
  · intro x a' _ X Y row hs hg hr
    obtain ⟨Bx, h1, h2, h3⟩ := hs
    exact ⟨Bx, h1, (hg.block Bx (Array.getElem?_eq_some_iff.1 h2).1 (fun e => by obtain ⟨_, o, ho, hc⟩ := hr Bx e.symm; rw [h2] at ho; cases ho; cases hc)).trans h2, h3⟩
  · intro l pre x W K hi hK
    exact hassign l pre x W K _ rfl hi (hK _ _ ((KeepsOthers.alloc _ _).from _) (Kb.of_below (Nat.le_trans hn (hIz _ _ hi)) ((Below.refl _ _).alloc (Nat.le_refl _) _)) (hI.alloc _ hi) ⟨_, hIz _ _ hi, heap_new _ _ rfl, rfl⟩)
  · intro l pre x a' W hl hr hi ha hlt
    obtain ⟨Bx, h1, h2, rfl⟩ := ha
    exact hbody l pre x Bx W hi h1 h2 hlt

set_option maxRecDepth 200000 in
set_option maxHeartbeats 4000000 in
theorem between1_inB (n l Bd Ba Bb base top : Nat) (v : Value) (d : Doc) (i p j q : Nat) (S : Nat → Prop) (J Jx : List (RowX d) → World → Prop) (w0 W : World) (hv : LinsR w0 S v d) (hb0 : Below w0.heap.size w0 W)
    (hbase : base ≤ Bd ∧ base ≤ Ba ∧ base ≤ Bb) (htop : Bd < top ∧ Ba < top ∧ Bb < top) (hD : W.heap[Bd]? = some (.cells #[v] 22)) (hA : W.heap[Ba]? = some (.cells #[.int .i64 i, .int .i64 p] 24)) (hB : W.heap[Bb]? = some (.cells #[.int .i64 j, .int .i64 q] 24))
    (hij : i ≤ j) (hj : j < d.length) (hok : ∀ k, i ≤ k → k ≤ j → RowOk d (rowB d i p j q k)) (hlen : d.length ≤ 100000) (hJ : AbidesFrom W.heap.size J)
    (hY : ∀ (pre : List (RowX d)) (x : RowX d) W, J pre W → pre.length < 200000 → YieldAt Fence.wide (n - 1) Tryz.prog l (rowEnc x) W fun e W' =>
      (e = .returned (.bool true) ∧ J (pre ++ [x]) W' ∧ Kb w0.heap.size base top W W') ∨ (e = .returned (.bool false) ∧ Jx (pre ++ [x]) W'))
    (h0 : J [] W) :
    CallsIn Fence.wide n Tryz.prog 125 #[.func (.yield l) #[] #[], .pointer (some ⟨Ba, 0, none⟩), .pointer (some ⟨Bb, 0, none⟩), .pointer (some ⟨Bd, 0, none⟩)] W fun e W' => (∃ v, e = .returned v) ∧
      ((∃ ys : List (RowX d), ys.map (·.1) = rowsTo d i p j q (j + 1) ∧ J ys W') ∨ (∃ pre, True ∧ Jx pre W')) := by
  refine callsIn_of_wp Tryz.func125 rfl trivial ?_ rfl
  simp only [Tryz.ntmps125, List.size_toArray, List.length_cons, List.length_nil, Nat.reduceAdd, Nat.reduceSub, Array.replicate_succ, Array.replicate_zero, List.push_toArray, List.append_toArray, List.nil_append, List.cons_append]
  have hwf : ∀ f, Fence.wide.fn f := fun _ => trivial
  have hwd : Fence.wide.depth = none := rfl
  obtain ⟨va, vc, rfl, hvc, hvm, hx⟩ := lins_shape hv
  have HX := Lib.hid hx
  have HY := Lib.hid hY
  have HOK := Lib.hid hok
  have HJA := Lib.hid hJ
  have HBK := Lib.hid (And.intro hD (And.intro hA hB))
  obtain ⟨p1, f1⟩ := blk hD
  obtain ⟨p2, f2⟩ := blk hA
  obtain ⟨p3, f3⟩ := blk hB
  unfold maxLen at hvm
  clear hx hv hY hok hJ hD hA hB
  gi_wp2_with fail
  clear p1 f1 p2 f2 p3 f3
  gi_loopw [5, 6, 7] (fun z _ _ wr => ∃ (k : Nat) (pre : List (RowX d)), i ≤ k ∧ k ≤ j + 1 ∧ pre.length ≤ k ∧ z = .int .i64 k ∧ Hid (pre.map (·.1) = rowsTo d i p j q k) ∧ J pre wr ∧ Below w0.heap.size w0 wr ∧ Hid (wr.heap[Bd]? = some (.cells #[.slice va d.length vc] 22) ∧ wr.heap[Ba]? = some (.cells #[.int .i64 i, .int .i64 p] 24) ∧ wr.heap[Bb]? = some (.cells #[.int .i64 j, .int .i64 q] 24)) ∧ W.heap.size ≤ wr.heap.size)
    (fun z _ _ _ => j + 1 - (intOf z).toNat)
  case atStart => exact ⟨i, [], Nat.le_refl _, by omega, Nat.zero_le _, rfl, Lib.hid (rowsTo_nil ..).symm, h0, hb0, HBK, Nat.le_refl _⟩
  case round =>
    obtain ⟨k, pre, hk1, hk2, hpl, rfl, HP, hJs, hb1, HBL, hz1⟩ := hrel
    obtain ⟨p1, f1⟩ := blk HBL.out.1
    obtain ⟨p2, f2⟩ := blk HBL.out.2.1
    obtain ⟨p3, f3⟩ := blk HBL.out.2.2
    by_cases hlt : k ≤ j
    · obtain ⟨l0, hl0, _⟩ := getOf d k (by omega)
      obtain ⟨b, o, la, lc, ca, cc, rfl, hAk⟩ := HX.out k l0 hl0
      obtain ⟨_, c0, c1, c2, c3, _, _⟩ := hAk.below hb1
      have HL0 := Lib.hid (rowB_len d (i := i) (p := p) (j := j) (q := q) hl0)
      have hd1 : Below wr.heap.size wr wr.drew := (Below.refl _ _).drew
      have HD1 := Lib.hid hd1
      have HJ1 := Lib.hid (abides_below (X := wr) (Y := wr.drew) HJA.out hJs hd1)
      have i0 : (0 : Int) ≤ (k : Int) := Int.natCast_nonneg _
      have i1 : (k : Int) < (d.length : Int) := by omega
      have hNext : ∀ w7, J (pre ++ [⟨rowB d i p j q k, HOK.out k hk1 hlt⟩]) w7 → Kb w0.heap.size base top wr.drew w7 → ∃ (k' : Nat) (pre : List (RowX d)), i ≤ k' ∧ k' ≤ j + 1 ∧ pre.length ≤ k' ∧ k' = k + 1 ∧ Hid (pre.map (·.1) = rowsTo d i p j q k') ∧ J pre w7 ∧ Below w0.heap.size w0 w7 ∧ Hid (w7.heap[Bd]? = some (.cells #[.slice (some ⟨b, o, none⟩) d.length vc] 22) ∧ w7.heap[Ba]? = some (.cells #[.int .i64 i, .int .i64 p] 24) ∧ w7.heap[Bb]? = some (.cells #[.int .i64 j, .int .i64 q] 24)) ∧ W.heap.size ≤ w7.heap.size := by
        intro w7 hj7 hk7
        refine ⟨k + 1, _, by omega, by omega, by simp; omega, rfl, Lib.hid ?_, hj7, (below_from hb1 HD1.out).trans hk7.below, Lib.hid ⟨hk7.cells _ _ hbase.1 htop.1 HBL.out.1 rfl, hk7.cells _ _ hbase.2.1 htop.2.1 HBL.out.2.1 rfl, hk7.cells _ _ hbase.2.2 htop.2.2 HBL.out.2.2 rfl⟩, Nat.le_trans hz1 hk7.below.size⟩
        rw [rowsTo_step d hk1, List.map_append, HP.out]
        rfl
      have HNX := Lib.hid hNext
      have hYY := HY.out pre ⟨rowB d i p j q k, HOK.out k hk1 hlt⟩ wr.drew HJ1.out (by omega)
      have hrow : rowEnc (⟨rowB d i p j q k, HOK.out k hk1 hlt⟩ : RowX d) = #[.int .i64 k, .agg #[.int .i64 ((if k = i then p else 0 : Nat) : Int), .int .i64 ((if k = j then q else l0.cells.length : Nat) : Int)]] := by unfold rowEnc; simp only [HL0.out]
      rw [hrow] at hYY
      clear hAk hl0 hNext hJs HJ1 HL0 hrow
      rcases (show k = i ∧ k = j ∨ k = i ∧ ¬ k = j ∨ ¬ k = i ∧ k = j ∨ ¬ k = i ∧ ¬ k = j by omega) with ⟨e1, e2⟩ | ⟨e1, e2⟩ | ⟨e1, e2⟩ | ⟨e1, e2⟩
      · rw [if_pos e1, if_pos e2] at hYY
        have hq1 : ((k : Int) == (i : Int)) = true := by simp; omega
        have hq2 : ((k : Int) == (j : Int)) = true := by simp; omega
        have hq3 : decide ((k : Int) ≤ (j : Int)) = true := by simp; omega
        try rw [show ((0 : Nat) : Int) = 0 from rfl] at hYY
        obtain ⟨fn, tmps, assign, body, hy, hR⟩ := hYY
        clear e1 e2
        gi_wp2_with fail
        gi_region
        gi_wp2_with fail
        refine hR.mono ?_
        rintro e w7 (⟨rfl, hJ7, hk7⟩ | ⟨rfl, hJx7⟩)
        · gi_wp2_with fail
          obtain ⟨k', pre', g1, g2, g3, e3, g4, g5, g6, g7, g8⟩ := HNX.out w7 hJ7 hk7
          go_roundw
          case rel => exact ⟨k', pre', g1, g2, g3, by rw [e3]; go_num, g4, g5, g6, g7, g8⟩
          case measure => simp [intOf]; omega
        · gi_wp2_with fail
          refine bodyPost_ret (results_none rfl _ _ _) rfl ?_
          exact ⟨⟨_, rfl⟩, .inr ⟨_, trivial, hJx7⟩⟩
      · rw [if_pos e1, if_neg e2] at hYY
        have hq1 : ((k : Int) == (i : Int)) = true := by simp; omega
        have hq2 : ((k : Int) == (j : Int)) = false := by simp; omega
        have hq3 : decide ((k : Int) ≤ (j : Int)) = true := by simp; omega
        try rw [show ((0 : Nat) : Int) = 0 from rfl] at hYY
        obtain ⟨fn, tmps, assign, body, hy, hR⟩ := hYY
        clear e1 e2
        gi_wp2_with fail
        gi_region
        gi_wp2_with fail
        refine hR.mono ?_
        rintro e w7 (⟨rfl, hJ7, hk7⟩ | ⟨rfl, hJx7⟩)
        · gi_wp2_with fail
          obtain ⟨k', pre', g1, g2, g3, e3, g4, g5, g6, g7, g8⟩ := HNX.out w7 hJ7 hk7
          go_roundw
          case rel => exact ⟨k', pre', g1, g2, g3, by rw [e3]; go_num, g4, g5, g6, g7, g8⟩
          case measure => simp [intOf]; omega
        · gi_wp2_with fail
          refine bodyPost_ret (results_none rfl _ _ _) rfl ?_
          exact ⟨⟨_, rfl⟩, .inr ⟨_, trivial, hJx7⟩⟩
      · rw [if_neg e1, if_pos e2] at hYY
        have hq1 : ((k : Int) == (i : Int)) = false := by simp; omega
        have hq2 : ((k : Int) == (j : Int)) = true := by simp; omega
        have hq3 : decide ((k : Int) ≤ (j : Int)) = true := by simp; omega
        try rw [show ((0 : Nat) : Int) = 0 from rfl] at hYY
        obtain ⟨fn, tmps, assign, body, hy, hR⟩ := hYY
        clear e1 e2
        gi_wp2_with fail
        gi_region
        gi_wp2_with fail
        refine hR.mono ?_
        rintro e w7 (⟨rfl, hJ7, hk7⟩ | ⟨rfl, hJx7⟩)
        · gi_wp2_with fail
          obtain ⟨k', pre', g1, g2, g3, e3, g4, g5, g6, g7, g8⟩ := HNX.out w7 hJ7 hk7
          go_roundw
          case rel => exact ⟨k', pre', g1, g2, g3, by rw [e3]; go_num, g4, g5, g6, g7, g8⟩
          case measure => simp [intOf]; omega
        · gi_wp2_with fail
          refine bodyPost_ret (results_none rfl _ _ _) rfl ?_
          exact ⟨⟨_, rfl⟩, .inr ⟨_, trivial, hJx7⟩⟩
      · rw [if_neg e1, if_neg e2] at hYY
        have hq1 : ((k : Int) == (i : Int)) = false := by simp; omega
        have hq2 : ((k : Int) == (j : Int)) = false := by simp; omega
        have hq3 : decide ((k : Int) ≤ (j : Int)) = true := by simp; omega
        try rw [show ((0 : Nat) : Int) = 0 from rfl] at hYY
        obtain ⟨fn, tmps, assign, body, hy, hR⟩ := hYY
        clear e1 e2
        gi_wp2_with fail
        gi_region
        gi_wp2_with fail
        refine hR.mono ?_
        rintro e w7 (⟨rfl, hJ7, hk7⟩ | ⟨rfl, hJx7⟩)
        · gi_wp2_with fail
          obtain ⟨k', pre', g1, g2, g3, e3, g4, g5, g6, g7, g8⟩ := HNX.out w7 hJ7 hk7
          go_roundw
          case rel => exact ⟨k', pre', g1, g2, g3, by rw [e3]; go_num, g4, g5, g6, g7, g8⟩
          case measure => simp [intOf]; omega
        · gi_wp2_with fail
          refine bodyPost_ret (results_none rfl _ _ _) rfl ?_
          exact ⟨⟨_, rfl⟩, .inr ⟨_, trivial, hJx7⟩⟩
    · obtain rfl : k = j + 1 := by omega
      gi_wp2_with fail
      go_end0
      exact ⟨⟨_, rfl⟩, .inl ⟨pre, HP.out, hJs⟩⟩

/-- The append of the fenced walk. -/
theorem wpListIn_append_R {F : Fence} {m : Nat} {P : Program} (w : World) {ops : Array Oper} {rest : List Oper} {o : Oper} {a : Act} {Q : Exit → Act → World → Prop} (hgd : o.guard = none) (s x : Operand) (st tx : TypeId)
    (ho : o.op = .call { callee := .builtin .append, args := #[s, x], argTypes := #[st, tx] }) {t : TypeId} {k : Nat} (hT : RowT P st t k) {α : Type} {R : Rd α} (hE : Elt t k R) (n : Nat) (v y : Value) {xs ys : List α} {news : List Value} (hs : a.eval s = v) (hx : a.eval x = y)
    (h1 : SliceR t k R true w (fun b => n ≤ b) v xs) (hn : n ≤ w.heap.size) (hsrc : Src P k tx y ys.length news w) (hnew : NewsR k R w (fun b => n ≤ b) news ys) (hlen : xs.length + ys.length ≤ 100000000)
    (h : ∀ v' w', SliceR t k R true w' (fun b => n ≤ b) v' (xs ++ ys) → Below n w w' → w.grownBy w' v.ownBlock → (v'.ownBlock = v.ownBlock ∨ v'.ownBlock = some w.heap.size) → wpListIn F m P ops Q rest (a.put o.dst v') w') :
    wpListIn F m P ops Q (o :: rest) a w := by
  refine wpListIn_plain hgd fun K hK => ?_
  obtain ⟨v', w', hr, h2, h3, h4, h5⟩ := append_R (P := P) (ty := o.type) hT hE h1 hn hsrc hnew hlen
  unfold Oper.wpIn
  refine ⟨?_, ?_⟩
  · simp [Oper.about, ho, resolve, Target.leads, Sem.run_pure]
  · rw [Oper.semAt_plain F _ _ (by rw [ho]; intro c hc'; cases hc')]
    simp [execOp, ho, resolve, invoke, builtin, hs, hx, hr, Result.andThen]
    exact hK _ _ (h v' w' h2 h3 h4 h5)
/-- A row of one's own turned by an append: nothing but cells turned. -/
theorem append_keeps {α : Type} {t : TypeId} {k : Nat} {R : Rd α} {w w' : World} {S : Nat → Prop} {v : Value} {xs : List α} (h : SliceR t k R true w S v xs) (hne : v = .slice none 0 0 ∨ xs ≠ []) (hg : w.grownBy w' v.ownBlock) : KeepsOthers w w' :=
  KeepsOthers.of_grownBy hg fun j o ej hj => by
    obtain ⟨a, c, rfl, _, _, hx⟩ := h
    rcases hx with ⟨rfl, hc0⟩ | ⟨b, o', rfl, _, _, hf, _⟩
    · rcases hne with e | e
      · cases e
        cases ej
      · exact absurd rfl e
    · obtain ⟨cs, h1, _⟩ := hf rfl
      have ej : some b = some j := ej
      cases ej
      rw [h1] at hj
      cases hj
      rfl
end Go.Proofs.YtfoiaoopbkcpoaaGreatDoor
