/- The walk of render.Host. -/
import Derived.Test.YteognfhemmogpaaGreatDoorRenNodesT
import Derived.Test.YteognfhemmogpaaGreatDoorRenFindPT
import Derived.Test.YteognfhemmogpaaGreatDoorRenAlikeT
import Derived.Test.YteognfhemmogpaaGreatDoorRenLeafT
import Derived.Test.YteognfhemmogpaaGreatDoorCharsTextT
set_option linter.unusedVariables false
set_option linter.unusedSimpArgs false
namespace Go.Proofs.YteognfhemmogpaaGreatDoor
open Go.RowKit
open Go.Proofs.Qw
attribute [local go_sem] Oper.semAt_some
theorem results_nt {fn : Func} {t p : Tmp} (h : fn.results = #[.cell p 35, .tmp t]) (tmps : Array Value) (w : World) (B : Nat) (x y z u : Value) (hp : tmps.getD p undef = .pointer (some ⟨B, 0, none⟩)) (hB : w.heap[B]? = some (.cells #[x, y, z, u] 35)) :
  (results fn tmps).run Tryz.prog w = .ok (.tuple #[.agg #[x, y, z, u], tmps.getD t undef]) w := by
 have hp' : tmps[p]?.getD undef = .pointer (some ⟨B, 0, none⟩) := by simpa using hp
 have h1 := run_loadVar_row (P := Tryz.prog) w B 35 35 _ _ _ hB Tryz.underlying35 rfl (by kernel_rfl)
 simp [results, h, hp', asAddr, h1]
theorem may_iffH {d : Doc} (h : mayD d = true) : d.length ≤ 200 ∧ sizeD d ≤ 4000 := by
 unfold mayD at h
 simp only [Bool.and_eq_true, decide_eq_true_eq] at h
 exact ⟨h.1.1.2, h.1.2⟩
theorem may_smallH {d : Doc} (h : mayD d = true) : Small d := by
 obtain ⟨h2, h3⟩ := may_iffH h
 refine ⟨by omega, by omega, fun l hl c hc => ?_⟩
 obtain ⟨_, _, _, _, _, _, _, h8⟩ := (ok_of_may h).2 l hl
 rcases (h8 c hc).2.2.2 with e | e
 ·rw [e]; simp
 ·unfold targetF valueF valueB at e
  simp only [Bool.and_eq_true, decide_eq_true_eq] at e
  have h5 := e.1.2.1
  have : (⟨c.href.toArray⟩ : ByteArray).size = c.href.length := by show c.href.toArray.size = _; simp
  omega
theorem lin_for {d : List Lin} (h : mayD d = true) : ∀ l ∈ d, LinFor 0 13 l := fun l hl => by
 have ho := (ok_of_may h).2 l hl
 have h1 := way_len ho
 have h2 : l.cells.length ≤ sizeD d := by
  obtain ⟨k, hk⟩ := List.getElem?_of_mem hl
  exact cells_le hk
 have h3 := (may_iffH h).2
 obtain ⟨a1, a2, a3, a4, a5, _⟩ := ho
 exact ⟨a4, a5, by omega, by omega, by omega, Nat.zero_le _⟩
set_option maxRecDepth 100000 in
set_option maxHeartbeats 4000000 in
theorem host_yes (v : Value) (d : List Lin) (w w0 : World) (S : Nat → Prop) (hv : LinsR w0 S v d) (he : EnvT w) (h0 : Below w0.heap.size w0 w) (hm : mayD d = true) :
  Calls Tryz.prog 12 #[v] w fun e w' => ∃ k', e = .returned (.tuple #[nodV (hostN d) (.slice none 0 0) k', .int .i64 0]) ∧ NodsR true 40 w' (fun b => w.heap.size ≤ b) k' (hostN d).kids ∧ Below w.heap.size w w' := by
 have HM : Hid (∀ X, Below w.heap.size w X → Calls Tryz.prog 23 #[v] X fun e X' => e = .returned (.bool true) ∧ Below X.heap.size X X') := Lib.hid fun X hX => hm ▸ docMay_any v d X w0 S hv (he.below hX) (below_from h0 hX) (may_smallH hm)
 have hne := (ok_of_may hm).1
 have hfor := lin_for hm
 have hml := (may_iffH hm).1
 have hhl := host_len (lineN (gr rowK)) 13 0 d
 have hhf := host_fit 13 0 d (by omega) (fun y hy => by have := (hfor y hy).2.2.1; omega)
 have HN : Hid (∀ X, Below w.heap.size w X → Calls Tryz.prog 25 #[v, .int .i64 0] X fun e X' => ∃ ka kc, e = .returned (.slice ka (hostL (lineN (gr rowK)) 13 0 d).length kc) ∧ NodsR true 40 X' (fun b => X.heap.size ≤ b) (.slice ka (hostL (lineN (gr rowK)) 13 0 d).length kc) (hostL (lineN (gr rowK)) 13 0 d) ∧ Below X.heap.size X X') := Lib.hid fun X hX => (nodes_all 13 0 v d X w0 S hv (below_from h0 hX) hne (by omega) hfor (by omega)).mono fun _ _ ⟨k', h1, h2, h3⟩ => by
  obtain ⟨ka, kc, rfl⟩ := h2.slice
  exact ⟨ka, kc, h1, h2, h3⟩
 have HE : Hid (∀ X X0 ka kc, NodsR true 40 X (fun b => X0 ≤ b) (.slice ka (hostL (lineN (gr rowK)) 13 0 d).length kc) (hostL (lineN (gr rowK)) 13 0 d) → Calls Tryz.prog 24 #[.int .i64 1, .slice ka (hostL (lineN (gr rowK)) 13 0 d).length kc] X fun e X' => ∃ ka kc, e = .returned (.agg #[.int .i64 1, .slice none 0 0, .string ⟨#[]⟩, .slice ka (hostL (lineN (gr rowK)) 13 0 d).length kc]) ∧ NodsR true 40 X' (fun b => X.heap.size ≤ b) (.slice ka (hostL (lineN (gr rowK)) 13 0 d).length kc) (hostL (lineN (gr rowK)) 13 0 d) ∧ Below X.heap.size X X') := Lib.hid fun X X0 ka kc hk => (elem_any 40 1 _ _ true X X _ hk (Below.refl _ _) (by omega) hhf).mono fun _ _ ⟨k', h1, h2, h3⟩ => by
  obtain ⟨ka, kc, rfl⟩ := h2.slice
  exact ⟨ka, kc, h1, h2, h3⟩
 unfold hostN nodV
 obtain ⟨va, vc, rfl⟩ := hv.slice
 obtain ⟨W1, hW1, hB, hz, hB1⟩ := one_node w (.int .i64 0) (.slice none 0 0) (.string ⟨#[]⟩) (.slice none 0 0)
 have H1 := Lib.hid hB1
 have HB := Lib.hid hB
 have HZ := Lib.hid hz
 obtain ⟨p1, f1⟩ := blk hB1
 clear hv he h0 hm hne hfor hml hhl hhf hz hB hB1
 show Calls _ _ _ _ fun e w' => ∃ k', e = .returned (.tuple #[.agg #[.int .i64 1, .slice none 0 0, .string ⟨#[]⟩, k'], .int .i64 0]) ∧ NodsR true 40 w' (fun b => w.heap.size ≤ b) k' (hostL (lineN (gr rowK)) 13 0 d) ∧ Below w.heap.size w w'
 generalize hostL (lineN (gr rowK)) 13 0 d = G at *
 go_enter Tryz.func12, Tryz.ntmps12
 go_wp2_with (first
  | (go_at_call 23; refine (HM.out _ HB.out).mono ?_; rintro e w2 ⟨rfl, hb2⟩; have hx2 := below_from HB.out hb2)
  | (go_at_call 25; refine (HN.out _ hx2).mono ?_; rintro e w3 ⟨ka, kc, rfl, hk3', hb3⟩; have HK3 := Lib.hid hk3'; clear hk3'; have hx3 := below_from hx2 hb3)
  | (go_at_call 24; refine (HE.out _ _ _ _ HK3.out).mono ?_; rintro e w4 ⟨ka4, kc4, rfl, hk4, hb4⟩; have HK4 := Lib.hid hk4; clear hk4; have hx4 := below_from hx3 hb4; have hB4 := heap_below (below_from (below_from hb2 hb3) hb4) H1.out; obtain ⟨q1, g1⟩ := blk hB4))
 have z := HZ.out
 have hz2 := hb2.size
 have hz3 := hb3.size
 have hz4 := hb4.size
 refine bodyPost_ret (results_nt rfl _ _ w.heap.size (.int .i64 1) (.slice none 0 0) (.string ⟨#[]⟩) (.slice ka4 G.length kc4) rfl (by simp [heap_set, putIn, hB4])) rfl ?_
 refine ⟨_, rfl, HK4.out.stable (rdNod_stable _ _) (((((Keeps.refl _ _).set (by simp; omega) _).set (by simp; omega) _).set (by simp; omega) _).set (by simp; omega) _) (fun b h _ => ?_), ?_⟩
 ·have h : w3.heap.size ≤ b := h
  show w.heap.size ≤ b
  omega
 ·exact (((hx4.setCell (Nat.le_refl _) _).setCell (Nat.le_refl _) _).setCell (Nat.le_refl _) _).setCell (Nat.le_refl _) _
set_option maxRecDepth 100000 in
set_option maxHeartbeats 4000000 in
theorem host_no (v : Value) (d : List Lin) (w w0 : World) (S : Nat → Prop) (hv : LinsR w0 S v d) (he : EnvT w) (h0 : Below w0.heap.size w0 w) (hs : Small d) (hm : mayD d = false) :
  Calls Tryz.prog 12 #[v] w fun e w' => e = .returned (.tuple #[.agg #[.int .i64 0, .slice none 0 0, .string ⟨#[]⟩, .slice none 0 0], .int .i64 1]) ∧ Below w.heap.size w w' := by
 have HM : Hid (∀ X, Below w.heap.size w X → Calls Tryz.prog 23 #[v] X fun e X' => e = .returned (.bool false) ∧ Below X.heap.size X X') := Lib.hid fun X hX => hm ▸ docMay_any v d X w0 S hv (he.below hX) (below_from h0 hX) hs
 obtain ⟨va, vc, rfl⟩ := hv.slice
 obtain ⟨W1, hW1, hB, hz, hB1⟩ := one_node w (.int .i64 0) (.slice none 0 0) (.string ⟨#[]⟩) (.slice none 0 0)
 have H1 := Lib.hid hB1
 have HB := Lib.hid hB
 have HZ := Lib.hid hz
 obtain ⟨p1, f1⟩ := blk hB1
 clear hv he h0 hs hm hz hB hB1
 go_enter Tryz.func12, Tryz.ntmps12
 go_wp2_with (first
  | (go_at_call 23; refine (HM.out _ HB.out).mono ?_; rintro e w2 ⟨rfl, hb2⟩; have hx2 := below_from HB.out hb2; have hB4 := heap_below hb2 H1.out; obtain ⟨q1, g1⟩ := blk hB4))
 have z := HZ.out
 have hz2 := hb2.size
 refine bodyPost_ret (results_nt rfl _ _ w.heap.size (.int .i64 0) (.slice none 0 0) (.string ⟨#[]⟩) (.slice none 0 0) rfl (by simp [heap_set, putIn, hB4])) rfl ?_
 refine ⟨rfl, ?_⟩
 exact (((hx2.setCell (Nat.le_refl _) _).setCell (Nat.le_refl _) _).setCell (Nat.le_refl _) _).setCell (Nat.le_refl _) _
end Go.Proofs.YteognfhemmogpaaGreatDoor
namespace Go.Proofs.Qw
open Go.RowKit
theorem lastPath_len : ∀ (n j : Nat) (l : List Nod), (lastPath n j l).length = n
 | 0, _, _ => rfl
 | n + 1, j, l => by rw [lastPath, List.length_cons, lastPath_len n]
theorem isD_parts {d : Doc} {q : Ps} (h : isD d q = true) : 0 ≤ q.line ∧ q.line < d.length ∧ 0 ≤ q.col ∧ ∃ l, d[q.line.toNat]? = some l ∧ q.col ≤ (l.cells.length : Int) := by
 unfold isD at h
 simp only [Bool.and_eq_true, decide_eq_true_eq] at h
 obtain ⟨⟨⟨h1, h2⟩, h3⟩, h4⟩ := h
 obtain ⟨l, hl⟩ : ∃ l, d[q.line.toNat]? = some l := ⟨_, List.getElem?_eq_getElem (by omega)⟩
 refine ⟨h1, h2, h3, l, hl, ?_⟩
 rw [List.getD_eq_getElem?_getD, hl] at h4
 exact h4
def leafR (m : Nod) (p : List Int) (c : Int) : List Int × Int := match leafF m p c with | .inl r => r | .inr _ => ([], 0)
theorem point_col {d : List Lin} (hd : ∀ l ∈ d, LinOk l) {q : Ps} {l : Lin} (hl : d[q.line.toNat]? = some l) : pointN d q = if q.col = 0 then (lastPath ((wayL l).length + 1) 0 (hostL (lineN (gr rowK)) 13 0 (d.take (q.line.toNat + 1))), 0) else leafR (lineN (gr rowK) l) (lastPath ((wayL l).length + 1) 0 (hostL (lineN (gr rowK)) 13 0 (d.take (q.line.toNat + 1)))) q.col := by
 unfold pointN
 rw [host_line hd hl]
 rfl
mutual
theorem leafF_path : ∀ (n : Nod) (p : List Int) (c : Int) (r : List Int × Int), leafF n p c = .inl r → r.1.length ≤ p.length + n.deep
 | .mk _ _ _ ks, p, c, r, h => by rw [Nod.deep]; exact leafK_path ks 0 p c r (by rw [leafF] at h; exact h)
theorem leafK_path : ∀ (ks : List Nod) (t : Nat) (p : List Int) (c : Int) (r : List Int × Int), leafK ks t p c = .inl r → r.1.length ≤ p.length + Nod.deeps ks
 | [], t, p, c, r, h => by rw [leafK_nil] at h; cases h
 | k :: ks, t, p, c, r, h => by
  have e : Nod.deeps (k :: ks) = max (k.deep + 1) (Nod.deeps ks) := by rw [Nod.deeps]
  rw [leafK_cons] at h
  split at h
  ·split at h
   ·cases h
    show p.length ≤ _
    omega
   ·have := leafK_path ks _ _ _ _ h
    omega
  ·split at h
   ·cases hr : leafF k (p ++ [(t : Int)]) c with
    | inl r' =>
     rw [hr] at h
     cases h
     have := leafF_path k _ _ _ hr
     rw [List.length_append, List.length_singleton] at this
     omega
    | inr c2 =>
     rw [hr] at h
     have := leafK_path ks _ _ _ _ h
     omega
   ·split at h
    ·cases h
     show (p ++ [(t : Int)]).length ≤ _
     rw [List.length_append, List.length_singleton]
     omega
    ·have := leafK_path ks _ _ _ _ h
     omega
end
end Go.Proofs.Qw
namespace Go.Proofs.YteognfhemmogpaaGreatDoor
open Go.RowKit
open Go.Proofs.Qw
attribute [local go_sem] Oper.semAt_some
theorem deeps_all : ∀ {l : List Nod} {B : Nat}, (∀ n ∈ l, n.deep + 1 ≤ B) → Nod.deeps l ≤ B
 | [], B, _ => by rw [Nod.deeps]; omega
 | k :: ks, B, h => by
  have e : Nod.deeps (k :: ks) = max (k.deep + 1) (Nod.deeps ks) := by rw [Nod.deeps]
  have h1 := h k (by simp)
  have h2 := deeps_all (l := ks) (B := B) (fun n hn => h n (by simp [hn]))
  omega
theorem rd_deep : ∀ {h : Nat} {own : Bool} {w : World} {S : Nat → Prop} {vs : List Value} {n : Nod}, rdNod own h w S vs n → n.deep + 1 ≤ h
 | 0, _, _, _, _, _, h => h.elim
 | h + 1, _, _, _, _, n, ⟨a, k, h1, h2, h3⟩ => by
  have : n.deep = Nod.deeps n.kids := by cases n; rw [Nod.deep]; rfl
  rw [this]
  have := deeps_all (l := n.kids) (B := h) (fun x hx => by
   obtain ⟨i, hi⟩ := List.getElem?_of_mem hx
   obtain ⟨_, _, _, _, _, hx⟩ := SliceR.shape h3
   obtain ⟨_, _, _, _, _, _, _, hR, _⟩ := hx i x hi
   exact rd_deep hR)
  omega
theorem nods_deep {h : Nat} {own : Bool} {w : World} {S : Nat → Prop} {v : Value} {l : List Nod} (hv : NodsR own h w S v l) : Nod.deeps l ≤ h := deeps_all fun x hx => by
 obtain ⟨i, hi⟩ := List.getElem?_of_mem hx
 obtain ⟨_, _, _, _, _, hx⟩ := SliceR.shape hv
 obtain ⟨_, _, _, _, _, _, _, hR, _⟩ := hx i x hi
 exact rd_deep hR
theorem pos_point (w : World) (x1 x2 y1 y2 : Value) : ∃ W1, (w.alloc (.cells #[x1, x2] 43)).alloc (.cells #[y1, y2] 45) = W1 ∧ Below w.heap.size w W1 ∧ w.heap.size + 1 < W1.heap.size ∧ W1.heap[w.heap.size]? = some (.cells #[x1, x2] 43) ∧ W1.heap[w.heap.size + 1]? = some (.cells #[y1, y2] 45) :=
 ⟨_, rfl, ((Below.refl _ _).alloc (Nat.le_refl _) _).alloc (by simp) _, by simp, heap_old _ _ (heap_new _ _ rfl), heap_new _ _ (by simp)⟩
set_option maxRecDepth 100000 in
set_option maxHeartbeats 4000000 in
theorem point_yes (v : Value) (d : List Lin) (q : Ps) (w w0 : World) (S : Nat → Prop) (hv : LinsR w0 S v d) (he : EnvT w) (h0 : Below w0.heap.size w0 w) (hm : mayD d = true) (hi : isD d q = true) :
  Calls Tryz.prog 17 #[v, .agg #[.int .i64 q.line, .int .i64 q.col]] w fun e w' => ∃ qa qc, e = .returned (.tuple #[.agg #[.slice qa (pointN d q).1.length qc, .int .i64 (pointN d q).2], .int .i64 0]) ∧ IntsR false w' (fun b => w.heap.size ≤ b) (.slice qa (pointN d q).1.length qc) (pointN d q).1 ∧ Below w.heap.size w w' := by
 obtain ⟨i1, i2, i3, l, hl, i4⟩ := isD_parts hi
 have hok := (ok_of_may hm).2
 have hlok := hok l (List.mem_of_getElem? hl)
 have hpt := point_col hok hl
 have hhl := host_line hok hl
 have hcl : l.cells.length ≤ 4000 := Nat.le_trans (cells_le hl) (may_iffH hm).2
 have hdl := (may_iffH hm).1
 have hwl : (wayL l).length ≤ 12 := by
  have := way_len hlok
  obtain ⟨a1, a2, a3, _⟩ := hlok
  omega
 have htx : txtSz (lineN (gr rowK) l) ≤ 1000000 := by
  unfold lineN
  rw [txtSz]
  have := gr_txt rowK l.cells
  simp only [List.length_nil]
  omega
 have hma : (lineN (gr rowK) l).attrs = [] := rfl
 have HIs : Hid (∀ X, Below w.heap.size w X → Calls Tryz.prog 29 #[v, .agg #[.int .i64 q.line, .int .i64 q.col]] X fun e X' => e = .returned (.bool true) ∧ Below X.heap.size X X') := Lib.hid fun X hX => hi ▸ is_any _ d q X w0 S hv (below_from h0 hX)
 obtain ⟨P, hP⟩ : ∃ P, lastPath ((wayL l).length + 1) 0 (hostL (lineN (gr rowK)) 13 0 (d.take (q.line.toNat + 1))) = P := ⟨_, rfl⟩
 have hPl : P.length ≤ 13 := by rw [← hP, lastPath_len]; omega
 rw [hP] at hpt hhl
 obtain ⟨M, hM⟩ : ∃ M, lineN (gr rowK) l = M := ⟨_, rfl⟩
 rw [hM] at hpt hhl htx hma
 have hG : ∃ G, (hostN d).kids = G ∧ hostN d = .mk 1 [] [] G := ⟨_, rfl, rfl⟩
 obtain ⟨G, hG, hGh⟩ := hG
 have HH : Hid (∀ X, Below w.heap.size w X → Calls Tryz.prog 12 #[v] X fun e X' => ∃ ka kc, e = .returned (.tuple #[.agg #[.int .i64 1, .slice none 0 0, .string ⟨#[]⟩, .slice ka G.length kc], .int .i64 0]) ∧ NodsR true 40 X' (fun b => X.heap.size ≤ b) (.slice ka G.length kc) G ∧ Below X.heap.size X X') := Lib.hid fun X hX => (host_yes v d X w0 S hv (he.below hX) (below_from h0 hX) hm).mono fun _ _ ⟨k', h1, h2, h3⟩ => by
  rw [hG] at h2
  obtain ⟨ka, kc, rfl⟩ := h2.slice
  rw [hGh] at h1
  exact ⟨ka, kc, h1, h2, h3⟩
 have HL : Hid (∀ (w2 w3 : World) (X0 : Nat) ka kc, NodsR true 40 w2 (fun b => X0 ≤ b) (.slice ka G.length kc) G → Below w2.heap.size w2 w3 → w2.heap.size + 1 ≤ w3.heap.size → (w3.alloc (.cells #[.int .i64 q.line, .int .i64 q.col] 63)).heap[w3.heap.size]? = some (.cells #[.int .i64 q.line, .int .i64 q.col] 63) →
   Calls Tryz.prog 30 #[.pointer (some ⟨w3.heap.size, 0, none⟩), .agg #[.int .i64 1, .slice none 0 0, .string ⟨#[]⟩, .slice ka G.length kc], .slice none 0 0] (w3.alloc (.cells #[.int .i64 q.line, .int .i64 q.col] 63)) fun e X' => But w3.heap.size (w3.alloc (.cells #[.int .i64 q.line, .int .i64 q.col] 63)) X' ∧ ∃ qa qc ma mc mka mkc, e = .returned (.tuple #[.slice qa P.length qc, .agg #[.int .i64 M.tag, .slice ma 0 mc, .string ⟨M.text.toArray⟩, .slice mka M.kids.length mkc], .bool true]) ∧
   IntsR false X' (fun b => (w3.alloc (.cells #[.int .i64 q.line, .int .i64 q.col] 63)).heap.size ≤ b) (.slice qa P.length qc) P ∧ AttsR false X' (fun b => b < w3.heap.size) (.slice ma 0 mc) M.attrs ∧ NodsR false 40 X' (fun b => b < w3.heap.size) (.slice mka M.kids.length mkc) M.kids ∧ ∃ j : Int, FinAt w3.heap.size j q.col X') := Lib.hid fun w2 w3 X0 ka kc hk hb hz hf => by
  refine (line_all 40 (.mk 1 [] [] G) _ _ _ [] q.line.toNat w3.heap.size q.col (w3.alloc (.cells #[.int .i64 q.line, .int .i64 q.col] 63)) (fun b => b < w3.heap.size) (SliceR.nil _ _ _ _ _ _) ?_ (fun b hb => ⟨by simp; omega, by omega⟩) (SliceR.nil _ _ _ _ _ _) (by simp) (by omega) (by unfold FinAt; rw [show ((q.line.toNat : Nat) : Int) = q.line by omega]; exact hf)).mono ?_
  ·refine (hk.read fun _ _ g => rdNod_read g).stable (rdNod_stable _ _) (.all (below_from hb ((Below.refl _ _).alloc (Nat.le_refl _) _))) (fun b _ hz => ?_)
   omega
  ·rintro e X' ⟨h1, h2⟩
   rw [← hGh, hhl] at h2
   obtain ⟨qa, qc, ma, mc, mka, mkc, rfl, g1, g2, g3, g4⟩ := h2
   rw [hma] at g2 ⊢
   exact ⟨h1, qa, qc, ma, mc, mka, mkc, rfl, g1, g2, g3, g4⟩
 have HLf : Hid (∀ (W : World) (B : Nat) ma mc mka mkc pa pc (fj : Int), AttsR false W (fun b => b < B) (.slice ma 0 mc) M.attrs → NodsR false 40 W (fun b => b < B) (.slice mka M.kids.length mkc) M.kids → IntsR false W (fun b => B + 1 ≤ b) (.slice pa P.length pc) P → FinAt B fj q.col W →
   Calls Tryz.prog 31 #[.pointer (some ⟨B, 0, none⟩), .agg #[.int .i64 M.tag, .slice ma 0 mc, .string ⟨M.text.toArray⟩, .slice mka M.kids.length mkc], .slice pa P.length pc] W fun e X' => But B W X' ∧ ∃ ra rc bb, e = .returned (.tuple #[.agg #[.slice ra (leafR M P q.col).1.length rc, .int .i64 (leafR M P q.col).2], .bool bb]) ∧ IntsR false X' (fun b => B + 1 ≤ b) (.slice ra (leafR M P q.col).1.length rc) (leafR M P q.col).1 ∧ (leafR M P q.col).1.length ≤ 1000) ∨ q.col = 0 := by
  by_cases hc0 : q.col = 0
  ·exact .inr hc0
  refine .inl (Lib.hid fun W B ma mc mka mkc pa pc fj hA hK hp hf => ?_)
  have hBW : B < W.heap.size := (Array.getElem?_eq_some_iff.1 hf).1
  have hdp : M.deep ≤ 40 := by
   have := nods_deep hK
   have e : M.deep = Nod.deeps M.kids := by cases M; rw [Nod.deep]; rfl
   omega
  refine (leaf_all 40 M _ _ _ P q.col B fj W (fun b => b < B) (fun b => B + 1 ≤ b ∧ b < W.heap.size) hA hK (fun b hb => ⟨Nat.lt_trans hb hBW, Nat.ne_of_lt hb⟩) (hp.stable (rdOf_stable _) (Keeps.refl _ _) (fun b h hz => ⟨h, hz⟩)) (fun b hb => ⟨hb.2, by omega⟩) (by omega) (by omega) (by omega) htx hf).mono ?_
  rintro e X' ⟨h1, h2⟩
  refine ⟨h1, ?_⟩
  cases hr : leafF M P q.col with
  | inl r =>
   obtain ⟨q', t⟩ := r
   have hpl := leafF_path M P q.col _ hr
   have hpl : q'.length ≤ P.length + M.deep := hpl
   have e1 : leafR M P q.col = (q', t) := by unfold leafR; rw [hr]
   rw [hr] at h2
   rw [e1]
   obtain ⟨ra, rc, rfl, g⟩ := h2
   refine ⟨ra, rc, true, rfl, g.stable (rdOf_stable _) (Keeps.refl _ _) (fun b h _ => ?_), by show q'.length ≤ 1000; omega⟩
   rcases h with h | h
   ·exact h.1
   ·show B + 1 ≤ b
    omega
  | inr j =>
   have e1 : leafR M P q.col = ([], 0) := by unfold leafR; rw [hr]
   rw [hr] at h2
   rw [e1]
   obtain ⟨rfl, _⟩ := h2
   exact ⟨none, 0, false, rfl, SliceR.nil _ _ _ _ _ _, by simp⟩
 have HR : Hid (pointN d q = if q.col = 0 then (P, 0) else leafR M P q.col) := Lib.hid hpt
 clear hpt hhl hl hok hlok hwl hM hP hi hm hG hGh
 obtain ⟨W1, hW1, hB, hz, hB1, hB2⟩ := pos_point w (.int .i64 q.line) (.int .i64 q.col) (.slice none 0 0) (.int .i64 0)
 have HZ := Lib.hid hz
 have H1 := Lib.hid hB1
 have H2 := Lib.hid hB2
 have HB := Lib.hid hB
 obtain ⟨va, vc, rfl⟩ := hv.slice
 clear hv he h0 hB hB1 hB2
 by_cases hc0 : q.col = 0
 ·have HR : Hid (pointN d q = (P, 0)) := Lib.hid (HR.out.trans (if_pos hc0))
  have hcb : (q.col == 0) = true := by simp [hc0]
  rw [HR.out]
  clear hc0 HLf
  go_enter Tryz.func17, Tryz.ntmps17
  go_wp2_with (first
   | (go_at_call 12; refine (HH.out _ HB.out).mono ?_; rintro e w2 ⟨ka, kc, rfl, hk2, hb2⟩; have HK2 := Lib.hid hk2; have hx2 := Lib.hid (below_from HB.out hb2); have hA2 := Lib.hid (heap_below hb2 H1.out); have hR2 := Lib.hid (heap_below hb2 H2.out); obtain ⟨q1, g1⟩ := blk hA2.out; obtain ⟨q2, g2⟩ := blk hR2.out; have zz : w.heap.size + 1 < w2.heap.size := Nat.lt_of_lt_of_le HZ.out hb2.size; have zz0 : w.heap.size < w2.heap.size := Nat.lt_of_succ_lt zz; clear hk2 hb2)
   | (go_at_call 29; (refine (HIs.out _ (hx2.out.alloc hx2.out.size _)).mono ?_; rintro e w3 ⟨rfl, hb3⟩; have hx3 := Lib.hid (below_from (hx2.out.alloc hx2.out.size _) hb3); have hR3 := Lib.hid (heap_below hb3 (heap_old _ _ hR2.out)); have hA3 := Lib.hid (heap_below hb3 (heap_old _ _ hA2.out)); have hN3 := Lib.hid (heap_below hb3 (heap_new _ _ rfl)); obtain ⟨q3, g3⟩ := blk hA3.out; obtain ⟨q4, g4⟩ := blk hN3.out; have hx23 := Lib.hid (below_from ((Below.refl w2.heap.size w2).alloc (Nat.le_refl _) _) hb3); have hz3 : w2.heap.size + 1 ≤ w3.heap.size := alloc_le hb3.size; have zw3 : w2.heap.size < w3.heap.size := hz3; have zw0 : w.heap.size < w3.heap.size := (by omega); have zw1 : w.heap.size + 1 < w3.heap.size := (by omega); clear hb3))
   | (go_at_call 30; refine (HL.out _ _ _ _ _ HK2.out hx23.out hz3 (heap_new _ _ rfl)).mono ?_; rintro e w4 ⟨hbt, pa, pc, ma, mc, mka, mkc, rfl, hp4, hma4, hmk4, fj, hf4⟩; have HBT := Lib.hid hbt; have HP4 := Lib.hid hp4; have HMA := Lib.hid hma4; have HMK := Lib.hid hmk4; have HF4 := Lib.hid hf4; have hA4 := Lib.hid (hbt.heap (by omega) (heap_old _ _ hA3.out)); have hR4 := Lib.hid (hbt.heap (by omega) (heap_old _ _ hR3.out)); obtain ⟨q5, g5⟩ := blk hA4.out; obtain ⟨q6, g6⟩ := blk hR4.out; have hz4 : w3.heap.size + 1 ≤ w4.heap.size := alloc_le hbt.size; have zz4 : w.heap.size + 1 < w4.heap.size := (by omega); have zz5 : w.heap.size < w4.heap.size := (by omega); have zne : ¬ (w.heap.size + 1 = w4.heap.size) := (by omega); have zne0 : ¬ (w.heap.size = w4.heap.size) := (by omega); clear hbt hp4 hma4 hmk4 hf4))
  refine bodyPost_ret (results_pt rfl _ _ (w.heap.size + 1) (.slice pa P.length pc) (.int .i64 0) rfl (heap_old _ _ (by simp [heap_set, putIn, hR4.out]))) rfl ?_
  have hx4 : Below w.heap.size w w4 := (hx3.out.alloc hx3.out.size _).trans (HBT.out.below (by simp; omega) (Nat.le_of_lt zw0))
  exact ⟨pa, pc, rfl, HP4.out.stable (rdOf_stable _) ((keeps2 (by simp; omega) _ _).alloc _) (fun b h _ => by (have := alloc_le h; omega)), ((hx4.setCell (Nat.le_succ _) _).setCell (Nat.le_succ _) _).alloc (by have := hx4.size; simpa using this) _⟩
 ·have HLf := HLf.resolve_right hc0
  have HR : Hid (pointN d q = leafR M P q.col) := Lib.hid (HR.out.trans (if_neg hc0))
  have hcb : (q.col == 0) = false := by simp [hc0]
  rw [HR.out]
  clear hc0
  generalize leafR M P q.col = R at *
  obtain ⟨R1, R2⟩ := R
  have HCl : Hid (∀ (w6 : World) W ra rc, (IntsR false w6 (fun _ => True) (.slice ra R1.length rc) R1 ∧ R1.length ≤ 1000) → Below w6.heap.size w6 W → Calls Tryz.prog 32 #[.slice ra R1.length rc] W fun e w' => ∃ va vc, e = .returned (.slice va R1.length vc) ∧ IntsR true w' (fun b => W.heap.size ≤ b) (.slice va R1.length vc) R1 ∧ Below W.heap.size W w') := Lib.hid fun w6 W ra rc hr hW => by
   refine (cloneInt_any _ R1 false W w6 _ hr.1 hW (by omega)).mono ?_
   rintro e w' ⟨v', h1, h2, h3⟩
   obtain ⟨va, vc, rfl⟩ := h2.slice
   exact ⟨va, vc, h1, h2, h3⟩
  go_enter Tryz.func17, Tryz.ntmps17
  go_wp2_with (first
   | (go_at_call 12; refine (HH.out _ HB.out).mono ?_; rintro e w2 ⟨ka, kc, rfl, hk2, hb2⟩; have HK2 := Lib.hid hk2; have hx2 := Lib.hid (below_from HB.out hb2); have hA2 := Lib.hid (heap_below hb2 H1.out); have hR2 := Lib.hid (heap_below hb2 H2.out); obtain ⟨q1, g1⟩ := blk hA2.out; obtain ⟨q2, g2⟩ := blk hR2.out; have zz : w.heap.size + 1 < w2.heap.size := Nat.lt_of_lt_of_le HZ.out hb2.size; have zz0 : w.heap.size < w2.heap.size := Nat.lt_of_succ_lt zz; clear hk2 hb2)
   | (go_at_call 29; (refine (HIs.out _ (hx2.out.alloc hx2.out.size _)).mono ?_; rintro e w3 ⟨rfl, hb3⟩; have hx3 := Lib.hid (below_from (hx2.out.alloc hx2.out.size _) hb3); have hR3 := Lib.hid (heap_below hb3 (heap_old _ _ hR2.out)); have hA3 := Lib.hid (heap_below hb3 (heap_old _ _ hA2.out)); have hN3 := Lib.hid (heap_below hb3 (heap_new _ _ rfl)); obtain ⟨q3, g3⟩ := blk hA3.out; obtain ⟨q4, g4⟩ := blk hN3.out; have hx23 := Lib.hid (below_from ((Below.refl w2.heap.size w2).alloc (Nat.le_refl _) _) hb3); have hz3 : w2.heap.size + 1 ≤ w3.heap.size := alloc_le hb3.size; have zw3 : w2.heap.size < w3.heap.size := hz3; have zw0 : w.heap.size < w3.heap.size := (by omega); have zw1 : w.heap.size + 1 < w3.heap.size := (by omega); clear hb3))
   | (go_at_call 30; refine (HL.out _ _ _ _ _ HK2.out hx23.out hz3 (heap_new _ _ rfl)).mono ?_; rintro e w4 ⟨hbt, pa, pc, ma, mc, mka, mkc, rfl, hp4, hma4, hmk4, fj, hf4⟩; have HBT := Lib.hid hbt; have HP4 := Lib.hid hp4; have HMA := Lib.hid hma4; have HMK := Lib.hid hmk4; have HF4 := Lib.hid hf4; have hA4 := Lib.hid (hbt.heap (by omega) (heap_old _ _ hA3.out)); have hR4 := Lib.hid (hbt.heap (by omega) (heap_old _ _ hR3.out)); obtain ⟨q5, g5⟩ := blk hA4.out; obtain ⟨q6, g6⟩ := blk hR4.out; have hz4 : w3.heap.size + 1 ≤ w4.heap.size := alloc_le hbt.size; have zz4 : w.heap.size + 1 < w4.heap.size := (by omega); have zz5 : w.heap.size < w4.heap.size := (by omega); have zne : ¬ (w.heap.size + 1 = w4.heap.size) := (by omega); have zne0 : ¬ (w.heap.size = w4.heap.size) := (by omega); clear hbt hp4 hma4 hmk4 hf4)
   | (go_at_call 31; refine (HLf.out _ w3.heap.size ma mc mka mkc pa pc fj (HMA.out.stable (rdOf_stable _) (.all ((Below.refl _ _).alloc (Nat.le_refl _) _)) (fun _ h _ => h)) (HMK.out.stable (rdNod_stable _ _) (.all ((Below.refl _ _).alloc (Nat.le_refl _) _)) (fun _ h _ => h)) (HP4.out.stable (rdOf_stable _) (.all ((Below.refl _ _).alloc (Nat.le_refl _) _)) (fun b h _ => alloc_le h)) (heap_old _ _ HF4.out)).mono ?_; rintro e w6 ⟨hbt6, ra, rc, bb, rfl, hr6⟩; have HBT6 := Lib.hid hbt6; have HR6 := Lib.hid hr6; have hR6 := Lib.hid (hbt6.heap (by omega) (heap_old _ _ hR4.out)); obtain ⟨q7, g7⟩ := blk hR6.out; have hz6 : w4.heap.size + 1 ≤ w6.heap.size := alloc_le hbt6.size; have zz6 : w.heap.size + 1 < w6.heap.size := (by omega); have zne6 : ¬ (w.heap.size + 1 = w6.heap.size) := (by omega); clear hbt6 hr6)
   | (go_at_call 32; refine (HCl.out _ _ ra rc ⟨HR6.out.1.stable (rdOf_stable _) (Keeps.refl _ _) (fun _ _ _ => trivial), HR6.out.2⟩ ((Below.refl _ _).alloc (Nat.le_refl _) _)).mono ?_; rintro e w7 ⟨na, nc, rfl, hn7, hb7⟩; have HN7 := Lib.hid hn7; have hP7 := Lib.hid (heap_below hb7 (heap_new _ _ rfl)); obtain ⟨q8, g8⟩ := blk hP7.out; have hR7 := Lib.hid (heap_below hb7 (heap_old _ _ hR6.out)); obtain ⟨q9, g9⟩ := blk hR7.out; have hx67 := Lib.hid (below_from ((Below.refl w6.heap.size w6).alloc (Nat.le_refl _) _) hb7); have hz7 : w6.heap.size + 1 ≤ w7.heap.size := alloc_le hb7.size; clear hn7 hb7))
  have hne : ¬ (w6.heap.size = w.heap.size + 1) := by omega
  refine bodyPost_ret (results_pt rfl _ _ (w.heap.size + 1) (.slice na R1.length nc) (.int .i64 R2) rfl (by simp [heap_set, putIn, hR7.out, hne])) rfl ?_
  have hx4 : Below w.heap.size w w4 := (hx3.out.alloc hx3.out.size _).trans (HBT.out.below (by simp; omega) (Nat.le_of_lt zw0))
  have hx6 : Below w.heap.size w w6 := (hx4.alloc hx4.size _).trans (HBT6.out.below (by simp; omega) (Nat.le_of_lt zw0))
  have hx7 : Below w.heap.size w w7 := below_from hx6 hx67.out
  have hN7 : IntsR false w7 (fun b => w6.heap.size + 1 ≤ b) (.slice na R1.length nc) R1 := (HN7.out.read fun _ _ h => h).stable (rdOf_stable _) (Keeps.refl _ _) (fun b h _ => alloc_le h)
  exact ⟨na, nc, rfl, hN7.stable (rdOf_stable _) ((((Keeps.refl _ _).set (by simp) _).set (by simp; omega) _).set (by simp; omega) _) (fun b h _ => by omega), ((hx7.setCell (by show _ ≤ w6.heap.size; omega) _).setCell (Nat.le_succ _) _).setCell (Nat.le_succ _) _⟩
end Go.Proofs.YteognfhemmogpaaGreatDoor
namespace Go.Proofs.Qw
open Go.RowKit
def exD : List Lin := [⟨0, [], 0, []⟩, ⟨0, [], 0, [⟨97, 0, []⟩, ⟨98, 1, []⟩, ⟨99, 3, []⟩, ⟨10, 1, []⟩]⟩]
def exL : List Lin := [⟨0, [0], 0, []⟩, ⟨0, [0, 1], 0, []⟩]
theorem exD_host : hostN exD = .mk 1 [] [] [.mk 2 [] [] [], .mk 2 [] [] [txtN [97], .mk 11 [] [] [txtN [98], .mk 12 [] [] [txtN [99]], brN]]] := by decide +kernel
theorem exL_host : hostN exL = .mk 1 [] [] [.mk 7 [] [] [.mk 9 [] [] [], .mk 8 [] [] [.mk 9 [] [] []]]] := by decide +kernel
theorem exD_point : pointN exD ⟨1, 4⟩ = ([1, 1], 3) := by decide +kernel
theorem exD_may : mayD exD = true ∧ mayD exL = true := by decide +kernel
end Go.Proofs.Qw
namespace Go.Proofs.Qw
open Go.RowKit Go.Proofs.YteognfhemmogpaaGreatDoor
theorem slice_blkR {α : Type} {t : TypeId} {k : Nat} {enc : α → List Value} (hk : ∀ x, (enc x).length = k) {w : World} {S : Nat → Prop} {b : Nat} (xs : List α) (h : w.heap[b]? = some (.cells (xs.map enc).flatten.toArray t)) (hS : S b) (hm : xs.length ≤ maxLen) :
  SliceR t k (rdOf enc) false w S (.slice (some ⟨b, 0, none⟩) xs.length xs.length) xs := by
 refine ⟨_, xs.length, rfl, Nat.le_refl _, hm, .inr ⟨b, 0, rfl, hS, (Array.getElem?_eq_some_iff.1 h).1, (fun e => by cases e), fun i x hx => ⟨enc x, hk x, rfl, fun j u hu => ?_⟩⟩⟩
 rw [cell_of_heap h, Nat.zero_add, List.getElem?_toArray]
 exact flatten_at (xs.map enc) i (enc x) j u (by simp; intro a _; exact hk a) (by rw [List.getElem?_map, hx]; rfl) hu
theorem doc_twoR {W : World} {S : Nat → Prop} {l m : Lin} {a b c e : Value} {g : Nat} (hg : W.heap[g]? = some (.cells #[.int .i64 l.quote, a, .int .i64 l.kind, b, .int .i64 m.quote, c, .int .i64 m.kind, e] 31)) (hI : IntsR false W S a l.lists) (hC : CelsR false W S b l.cells)
  (hI2 : IntsR false W S c m.lists) (hC2 : CelsR false W S e m.cells) (hS : S g) : LinsR W S (.slice (some ⟨g, 0, none⟩) 2 2) [l, m] := by
 refine ⟨_, 2, rfl, by simp, by decide, .inr ⟨g, 0, rfl, hS, (Array.getElem?_eq_some_iff.1 hg).1, (fun e => by cases e), fun i x hx => ?_⟩⟩
 match i, hx with
 | 0, hx =>
  cases hx
  refine ⟨_, rfl, ⟨a, b, rfl, hI, hC⟩, fun j u hu => ?_⟩
  rw [cell_of_heap hg]
  match j, hu with
  | 0, hu => exact hu
  | 1, hu => exact hu
  | 2, hu => exact hu
  | 3, hu => exact hu
 | 1, hx =>
  cases hx
  refine ⟨_, rfl, ⟨c, e, rfl, hI2, hC2⟩, fun j u hu => ?_⟩
  rw [cell_of_heap hg]
  match j, hu with
  | 0, hu => exact hu
  | 1, hu => exact hu
  | 2, hu => exact hu
  | 3, hu => exact hu
structure AwA (w : World) (b1 o1 b2 o2 c2 : Nat) (aa : Option Addr) (ac b3 o3 c3 : Nat) : Prop where
 z1 : b1 < w.heap.size
 z2 : b2 < w.heap.size
 z3 : b3 < w.heap.size
 k1 : w.cell? ⟨b1, o1 + 4 + 3, none⟩ = some (.slice (some ⟨b2, o2, none⟩) 2 c2)
 k2 : w.cell? ⟨b2, o2 + 4, none⟩ = some (.int .i64 11)
 k3 : w.cell? ⟨b2, o2 + 4 + 1, none⟩ = some (.slice aa 0 ac)
 k4 : w.cell? ⟨b2, o2 + 4 + 2, none⟩ = some (.string ⟨#[]⟩)
 k5 : w.cell? ⟨b2, o2 + 4 + 3, none⟩ = some (.slice (some ⟨b3, o3, none⟩) 3 c3)
 k6 : w.cell? ⟨b3, o3 + 8, none⟩ = some (.int .i64 16)
theorem AwA.below {w w' : World} {b1 o1 b2 o2 c2 ac b3 o3 c3 : Nat} {aa : Option Addr} (h : AwA w b1 o1 b2 o2 c2 aa ac b3 o3 c3) (hb : Below w.heap.size w w') : AwA w' b1 o1 b2 o2 c2 aa ac b3 o3 c3 :=
 ⟨Nat.lt_of_lt_of_le h.z1 hb.size, Nat.lt_of_lt_of_le h.z2 hb.size, Nat.lt_of_lt_of_le h.z3 hb.size, (hb.cell h.z1).trans h.k1, (hb.cell h.z2).trans h.k2, (hb.cell h.z2).trans h.k3, (hb.cell h.z2).trans h.k4, (hb.cell h.z2).trans h.k5, (hb.cell h.z3).trans h.k6⟩
theorem awA_of {w : World} {S : Nat → Prop} {v : Value} (h : NodsR false 40 w S v (hostN exD).kids) : ∃ b1 o1 c1 b2 o2 c2 aa ac b3 o3 c3, v = .slice (some ⟨b1, o1, none⟩) 2 c1 ∧ AwA w b1 o1 b2 o2 c2 aa ac b3 o3 c3 := by
 rw [exD_host] at h
 obtain ⟨a, c, rfl, hc, hm, hx⟩ := nods_shape h
 obtain ⟨b1, o1, aa1, ac1, ka1, kc1, h1, _, rfl, hn1⟩ := hx 1 _ rfl
 obtain ⟨a2, c2, e2, hc2, hm2, hx2⟩ := nods_shape hn1.kidsR
 obtain ⟨b2, o2, aa2, ac2, ka2, kc2, h2, _, rfl, hn2⟩ := hx2 1 _ rfl
 obtain ⟨a3, c3, e3, hc3, hm3, hx3⟩ := nods_shape hn2.kidsR
 obtain ⟨b3, o3, aa3, ac3, ka3, kc3, h3, _, rfl, hn3⟩ := hx3 2 _ rfl
 have k1 := hn1.kids
 have k5 := hn2.kids
 rw [e2] at k1
 rw [e3] at k5
 exact ⟨b1, o1, c, b2, o2, c2, aa2, ac2, b3, o3, c3, rfl, hn1.lt, hn2.lt, hn3.lt, k1, hn2.tag, hn2.attrs, hn2.text, k5, hn3.tag⟩
structure AwB (w : World) (b1 o1 : Nat) (ka : Option Addr) (kc : Nat) : Prop where
 z1 : b1 < w.heap.size
 k1 : w.cell? ⟨b1, o1 + 3, none⟩ = some (.slice ka 2 kc)
theorem AwB.below {w w' : World} {b1 o1 kc : Nat} {ka : Option Addr} (h : AwB w b1 o1 ka kc) (hb : Below w.heap.size w w') : AwB w' b1 o1 ka kc := ⟨Nat.lt_of_lt_of_le h.z1 hb.size, (hb.cell h.z1).trans h.k1⟩
theorem awB_of {w : World} {S : Nat → Prop} {v : Value} (h : NodsR false 40 w S v (hostN exL).kids) : ∃ b1 o1 c1 ka kc, v = .slice (some ⟨b1, o1, none⟩) 1 c1 ∧ AwB w b1 o1 ka kc := by
 rw [exL_host] at h
 obtain ⟨a, c, rfl, hc, hm, hx⟩ := nods_shape h
 obtain ⟨b1, o1, aa1, ac1, ka1, kc1, h1, _, rfl, hn1⟩ := hx 0 _ rfl
 exact ⟨b1, o1, c, ka1, kc1, rfl, hn1.lt, by have := hn1.kids; rw [Nat.zero_mul, Nat.add_zero] at this; exact this⟩
end Go.Proofs.Qw
namespace Go.Proofs.YteognfhemmogpaaGreatDoor
open Go.RowKit
open Go.Proofs.Qw
attribute [local go_sem] Oper.semAt_some
set_option maxRecDepth 100000 in
set_option maxHeartbeats 4000000 in
theorem awake19_any (w : World) (he : EnvT w) : Calls Tryz.prog 8 #[] w fun e w' => e = .returned (.bool true) ∧ Below w.heap.size w w' := by
 obtain ⟨W1, hW1⟩ : ∃ W1, (w.alloc (.cells #[.int .i32 97, .int .i64 0, .string ⟨#[]⟩, .int .i32 98, .int .i64 1, .string ⟨#[]⟩, .int .i32 99, .int .i64 3, .string ⟨#[]⟩, .int .i32 10, .int .i64 1, .string ⟨#[]⟩] 51)).alloc (.cells #[.int .i64 0, .slice none 0 0, .int .i64 0, .slice none 0 0, .int .i64 0, .slice none 0 0, .int .i64 0, .slice (some ⟨w.heap.size, 0, none⟩) 4 4] 31) = W1 := ⟨_, rfl⟩
 have hB : Below w.heap.size w W1 := hW1 ▸ ((Below.refl _ _).alloc (Nat.le_refl _) _).alloc (by simp) _
 have k0 : W1.heap[w.heap.size]? = some (.cells #[.int .i32 97, .int .i64 0, .string ⟨#[]⟩, .int .i32 98, .int .i64 1, .string ⟨#[]⟩, .int .i32 99, .int .i64 3, .string ⟨#[]⟩, .int .i32 10, .int .i64 1, .string ⟨#[]⟩] 51) := hW1 ▸ heap_old _ _ (heap_new _ _ rfl)
 have k1 : W1.heap[w.heap.size + 1]? = some (.cells #[.int .i64 0, .slice none 0 0, .int .i64 0, .slice none 0 0, .int .i64 0, .slice none 0 0, .int .i64 0, .slice (some ⟨w.heap.size, 0, none⟩) 4 4] 31) := hW1 ▸ heap_new _ _ (by simp)
 have hd : LinsR W1 (fun _ => True) (.slice (some ⟨w.heap.size + 1, 0, none⟩) 2 2) exD :=
  doc_twoR (l := ⟨0, [], 0, []⟩) (m := ⟨0, [], 0, [⟨97, 0, []⟩, ⟨98, 1, []⟩, ⟨99, 3, []⟩, ⟨10, 1, []⟩]⟩) k1 (SliceR.nil _ _ _ _ _ _) (SliceR.nil _ _ _ _ _ _) (SliceR.nil _ _ _ _ _ _) (slice_blkR (enc := encCel) (fun _ => rfl) [⟨97, 0, []⟩, ⟨98, 1, []⟩, ⟨99, 3, []⟩, ⟨10, 1, []⟩] k0 trivial (by decide)) trivial
 have HH : Hid (∀ W, Below W1.heap.size W1 W → Calls Tryz.prog 12 #[.slice (some ⟨w.heap.size + 1, 0, none⟩) 2 2] W fun e W' => ∃ b1 o1 c1 b2 o2 c2 aa ac b3 o3 c3, e = .returned (.tuple #[.agg #[.int .i64 1, .slice none 0 0, .string ⟨#[]⟩, .slice (some ⟨b1, o1, none⟩) 2 c1], .int .i64 0]) ∧ AwA W' b1 o1 b2 o2 c2 aa ac b3 o3 c3 ∧ Below W.heap.size W W') := Lib.hid fun W hW => (host_yes _ exD W W1 _ hd ((he.below hB).below hW) hW exD_may.1).mono fun _ _ ⟨k', h1, h2, h3⟩ => by
  obtain ⟨b1, o1, c1, b2, o2, c2, aa, ac, b3, o3, c3, rfl, ha⟩ := awA_of (h2.read fun _ _ g => rdNod_read g)
  rw [exD_host] at h1
  exact ⟨b1, o1, c1, b2, o2, c2, aa, ac, b3, o3, c3, h1, ha, h3⟩
 have HP : Hid (∀ W, Below W1.heap.size W1 W → Calls Tryz.prog 17 #[.slice (some ⟨w.heap.size + 1, 0, none⟩) 2 2, .agg #[.int .i64 1, .int .i64 4]] W fun e W' => ∃ b o c, e = .returned (.tuple #[.agg #[.slice (some ⟨b, o, none⟩) 2 c, .int .i64 3], .int .i64 0]) ∧ b < W'.heap.size ∧ W'.cell? ⟨b, o + 1, none⟩ = some (.int .i64 1) ∧ Below W.heap.size W W') := Lib.hid fun W hW => (point_yes _ exD ⟨1, 4⟩ W W1 _ hd ((he.below hB).below hW) hW exD_may.1 (by decide)).mono fun _ _ ⟨qa, qc, h1, h2, h3⟩ => by
  rw [exD_point] at h1 h2
  obtain ⟨a, c, e, _, _, hx⟩ := ints_shape h2
  cases e
  obtain ⟨b, o, rfl, hz, hc⟩ := hx 1 1 rfl
  exact ⟨b, o, _, h1, hz, hc, h3⟩
 have HH2 : Hid (∀ W, Below W1.heap.size W1 W → Calls Tryz.prog 12 #[.slice (some ⟨W.heap.size + 1 + 1, 0, none⟩) 2 2] (((W.alloc (.cells #[.int .i64 0] 3)).alloc (.cells #[.int .i64 0, .int .i64 1] 3)).alloc (.cells #[.int .i64 0, .slice (some ⟨W.heap.size, 0, none⟩) 1 1, .int .i64 0, .slice none 0 0, .int .i64 0, .slice (some ⟨W.heap.size + 1, 0, none⟩) 2 2, .int .i64 0, .slice none 0 0] 31)) fun e W' => ∃ b1 o1 c1 ka kc, e = .returned (.tuple #[.agg #[.int .i64 1, .slice none 0 0, .string ⟨#[]⟩, .slice (some ⟨b1, o1, none⟩) 1 c1], .int .i64 0]) ∧ AwB W' b1 o1 ka kc ∧ Below W.heap.size W W') := Lib.hid fun W hW => by
  obtain ⟨W3, hW3⟩ : ∃ W3, ((W.alloc (.cells #[.int .i64 0] 3)).alloc (.cells #[.int .i64 0, .int .i64 1] 3)).alloc (.cells #[.int .i64 0, .slice (some ⟨W.heap.size, 0, none⟩) 1 1, .int .i64 0, .slice none 0 0, .int .i64 0, .slice (some ⟨W.heap.size + 1, 0, none⟩) 2 2, .int .i64 0, .slice none 0 0] 31) = W3 := ⟨_, rfl⟩
  have hB3 : Below W.heap.size W W3 := hW3 ▸ (((Below.refl _ _).alloc (Nat.le_refl _) _).alloc (by simp) _).alloc (by simp; omega) _
  have g0 : W3.heap[W.heap.size]? = some (.cells #[.int .i64 0] 3) := hW3 ▸ heap_old _ _ (heap_old _ _ (heap_new _ _ rfl))
  have g1 : W3.heap[W.heap.size + 1]? = some (.cells #[.int .i64 0, .int .i64 1] 3) := hW3 ▸ heap_old _ _ (heap_new _ _ (by simp))
  have g2 : W3.heap[W.heap.size + 1 + 1]? = some (.cells #[.int .i64 0, .slice (some ⟨W.heap.size, 0, none⟩) 1 1, .int .i64 0, .slice none 0 0, .int .i64 0, .slice (some ⟨W.heap.size + 1, 0, none⟩) 2 2, .int .i64 0, .slice none 0 0] 31) := hW3 ▸ heap_new _ _ (by simp)
  rw [hW3]
  have hl : LinsR W3 (fun _ => True) (.slice (some ⟨W.heap.size + 1 + 1, 0, none⟩) 2 2) exL :=
   doc_twoR (l := ⟨0, [0], 0, []⟩) (m := ⟨0, [0, 1], 0, []⟩) g2 (slice_blkR (enc := encInt) (fun _ => rfl) [0] g0 trivial (by decide)) (SliceR.nil _ _ _ _ _ _) (slice_blkR (enc := encInt) (fun _ => rfl) [0, 1] g1 trivial (by decide)) (SliceR.nil _ _ _ _ _ _) trivial
  refine (host_yes _ exL W3 W3 _ hl (((he.below hB).below hW).below hB3) (Below.refl _ _) exD_may.2).mono fun _ _ ⟨k', h1, h2, h3⟩ => ?_
  obtain ⟨b1, o1, c1, ka, kc, rfl, ha⟩ := awB_of (h2.read fun _ _ g => rdNod_read g)
  rw [exL_host] at h1
  exact ⟨b1, o1, c1, ka, kc, h1, ha, below_from hB3 h3⟩
 have HW1 := Lib.hid hW1
 have HB := Lib.hid hB
 clear hd he k0 k1 hB hW1
 go_enter Tryz.func8, Tryz.ntmps8
 go_upto_region 7 with (first
  | (go_at_call 12; rw [HW1.out]; refine (HH.out _ (Below.refl _ _)).mono ?_; rintro e w2 ⟨b1, o1, c1, b2, o2, c2, aa, ac, b3, o3, c3, rfl, ha2, hb2⟩)
  | (go_at_call 17; refine (HP.out _ (hb2.alloc hb2.size _)).mono ?_; rintro e w3 ⟨pb, po, pc, rfl, hpz, hpc, hb3⟩; have hx3 := below_from (hb2.alloc hb2.size _) hb3; have hx23 := below_from ((Below.refl w2.heap.size w2).alloc (Nat.le_refl _) _) hb3; have hN3 := heap_below hb3 (heap_new _ _ rfl); obtain ⟨q1, g1⟩ := blk hN3; have hA3 := ha2.below hx23; obtain ⟨z1, z2, z3, m1, m2, m3, m4, m5, m6⟩ := hA3; have zn : w2.heap.size < w3.heap.size := alloc_le hb3.size))
 obtain ⟨W6, hW6⟩ : ∃ W6, (w3.alloc (.cells #[.slice (some ⟨pb, po, none⟩) 2 pc, .int .i64 3] 45)).alloc (.cells #[.int .i64 11, .slice aa 0 ac, .string ⟨#[]⟩, .slice (some ⟨b3, o3, none⟩) 3 c3] 35) = W6 := ⟨_, rfl⟩
 rw [hW6]
 have hb36 : Below w3.heap.size w3 W6 := hW6 ▸ ((Below.refl _ _).alloc (Nat.le_refl _) _).alloc (by simp) _
 have hP6 : Hid (W6.heap[w3.heap.size]? = some (.cells #[.slice (some ⟨pb, po, none⟩) 2 pc, .int .i64 3] 45)) := Lib.hid (hW6 ▸ heap_old _ _ (heap_new _ _ rfl))
 have hB6 : Hid (W6.heap[w3.heap.size + 1]? = some (.cells #[.int .i64 11, .slice aa 0 ac, .string ⟨#[]⟩, .slice (some ⟨b3, o3, none⟩) 3 c3] 35)) := Lib.hid (hW6 ▸ heap_new _ _ (by simp))
 have HA6 := Lib.hid (ha2.below (below_from hx23 hb36))
 have hx6 := Lib.hid (below_from hx3 hb36)
 have HPC := Lib.hid (And.intro (Nat.lt_of_lt_of_le hpz hb36.size) ((hb36.cell (p := ⟨pb, po + 1, none⟩) hpz).trans hpc))
 clear hW6 hb36 hx3 hx23 hpz hpc ha2 hb2 hb3 q1 g1 z1 z2 z3 m1 m2 m3 m4 m5 m6 zn hN3
 go_wp2_with (first
  | (go_at_call 12; refine (HH2.out _ hx6.out).mono ?_; rintro e w7 ⟨d1, p1, c4, ka, kc, rfl, hb7, hx67⟩; obtain ⟨q1, g1⟩ := blk (heap_below hx67 hP6.out); obtain ⟨q2, g2⟩ := blk (heap_below hx67 hB6.out); obtain ⟨z1, z2, z3, m1, m2, m3, m4, m5, m6⟩ := HA6.out.below hx67; have y1 := (Array.getElem?_eq_some_iff.1 (heap_below hx67 hP6.out)).1; have y2 := (Array.getElem?_eq_some_iff.1 (heap_below hx67 hB6.out)).1; obtain ⟨z7, m7⟩ := hb7; have z8 := Nat.lt_of_lt_of_le HPC.out.1 hx67.size; have m8 := (hx67.cell (p := ⟨pb, po + 1, none⟩) HPC.out.1).trans HPC.out.2; have hx7 := Lib.hid (below_from hx6.out hx67); clear hx67)
  )
 go_ret
 exact ⟨rfl, HB.out.trans ((hx7.out.alloc hx7.out.size _).mono HB.out.size)⟩
end Go.Proofs.YteognfhemmogpaaGreatDoor
namespace Go.Proofs.YteognfhemmogpaaGreatDoor
open Go.RowKit
open Go.Proofs.Qw
set_option maxRecDepth 100000 in
set_option maxHeartbeats 4000000 in
theorem long19_any (v : Value) (d : Doc) (w : World) (S : Nat → Prop) (h : LinsR w S v d) (hs : Sane d) :
  Calls Tryz.prog 6 #[v] w (LongSaid d w) := by
 obtain ⟨a, c, rfl, hc, hm, hx⟩ := lins_shape h
 have HX := Lib.hid hx
 have HS := Lib.hid hs
 unfold maxLen at hm
 clear hx h hs
 go_enter Tryz.func6, Tryz.ntmps6
 by_cases hl : 300 < d.length
 ·go_wp2_with fail
  go_ret
  exact ⟨true, rfl, (fun h => by cases h), Below.refl _ _⟩
 ·go_wp2_with fail
  go_loopw [3, 4, 5] (fun n i _ wr => ∃ (k m : Nat), k ≤ d.length ∧ i = .int .i64 k ∧ n = .int .i64 m ∧ m ≤ 5000 ∧ Hid (sizeD (d.take k) ≤ m ∧ ∀ l ∈ d.take k, l.lists.length ≤ 20000 ∧ ∀ c ∈ l.cells, c.href.length ≤ 160007) ∧ Below w.heap.size w wr) (fun _ i _ _ => d.length - (intOf i).toNat)
  case atStart => exact ⟨0, 0, Nat.zero_le _, rfl, rfl, Nat.zero_le _, Lib.hid ⟨Nat.le_refl _, fun l h => by cases h⟩, Below.refl _ _⟩
  case round =>
   obtain ⟨k, m, hk, rfl, rfl, hm2, HA, hb⟩ := hrel
   obtain ⟨wo, rfl⟩ : ∃ wo : World, wo = wr := ⟨_, rfl⟩
   by_cases hlt : k < d.length
   ·obtain ⟨l, hl', hd⟩ := getOf d k hlt
    obtain ⟨b, o, la, lc, ca, cc, rfl, hA⟩ := HX.out k l hl'
    have hsn := HS.out l (List.mem_of_getElem? hl')
    have hs1 := hsn.1
    have hs2 := hsn.2.1
    have HS3 := Lib.hid hsn.2.2
    have HA2 := Lib.hid hA
    obtain ⟨_, c0, c1, c2, c3, _, hcr⟩ := hA.below hb
    obtain ⟨ca', cc', hce, hcl, hcm, hcx⟩ := cels_shape hA.cellsR
    cases hce
    have HCX := Lib.hid hcx
    have HT := Lib.hid hl'
    have i0 : (0 : Int) ≤ (k : Int) := Int.natCast_nonneg _
    have i1 : (k : Int) < (d.length : Int) := by omega
    have hw : IntKind.i64.wrap ((l.cells.length : Int) + (l.lists.length : Int)) = (l.cells.length : Int) + (l.lists.length : Int) := IntWalk.i64_in _ (by omega)
    have hw2 : IntKind.i64.wrap ((m : Int) + ((l.cells.length : Int) + (l.lists.length : Int))) = (m : Int) + ((l.cells.length : Int) + (l.lists.length : Int)) := IntWalk.i64_in _ (by omega)
    unfold maxLen at hcm
    clear hA hl' hd hsn hcx hcr
    go_wp2_with fail
    go_quiet (fail)
    clear hw hw2
    go_wp2_with fail
    go_loopw [3, 5] (fun n j wi => ∃ (q m' : Nat), q ≤ l.cells.length ∧ j = .int .i64 q ∧ n = .int .i64 m' ∧ m' ≤ 562949953421312 ∧ Hid (m + (l.cells.length + l.lists.length) ≤ m' ∧ (m' ≤ 5000 → ∀ c ∈ l.cells.take q, c.href.length ≤ 160007)) ∧ Below w.heap.size w wi) (fun _ j _ => l.cells.length - (intOf j).toNat)
    case atStart => exact ⟨0, m + (l.cells.length + l.lists.length), Nat.zero_le _, rfl, by go_num, by omega, Lib.hid ⟨Nat.le_refl _, fun _ c h => by cases h⟩, drewN_below hb⟩
    case round =>
     obtain ⟨q, m', hq, rfl, rfl, hm3, HQ, hb2⟩ := hrel
     obtain ⟨hzb, c0, c1, c2, c3, _, _⟩ := HA2.out.below hb2
     have hcs : (q < l.cells.length ∧ m' ≤ 5000) ∨ 5000 < m' ∨ (q = l.cells.length ∧ m' ≤ 5000) := by omega
     rcases hcs with ⟨h1, h2⟩ | h2 | ⟨h1, h2⟩
     ·obtain ⟨x, hx, _⟩ := getOf l.cells q h1
      obtain ⟨bc, oc, rfl, hz, k0, k1, k2⟩ := HCX.out q x hx
      have k2 := (hb2.cell (p := ⟨bc, oc + q * 3 + 2, none⟩) hz).trans k2
      have hxl := HS3.out x (List.mem_of_getElem? hx)
      have HN : Hid (m + (l.cells.length + l.lists.length) ≤ m' + x.href.length / 16 ∧ (m' + x.href.length / 16 ≤ 5000 → ∀ c ∈ l.cells.take (q + 1), c.href.length ≤ 160007)) := Lib.hid ⟨by have := HQ.out.1; omega, fun h c hc => by
       rw [take_some hx, List.mem_append] at hc
       rcases hc with hc | hc
       ·exact HQ.out.2 (by omega) c hc
       ·rw [List.mem_singleton] at hc; subst hc; omega⟩
      clear hx
      go_wp2_with fail
      go_roundw
      case rel => exact ⟨q + 1, m' + x.href.length / 16, h1, by go_num, by go_num, by omega, HN, hb2⟩
      case measure => simp [intOf]; omega
     ·by_cases h1 : q < l.cells.length
      all_goals
       go_wp2_with fail
       go_ret
       exact ⟨true, rfl, (fun h => by cases h), hb2⟩
     ·subst h1
      have HN : Hid (sizeD (d.take (k + 1)) ≤ m' ∧ ∀ l ∈ d.take (k + 1), l.lists.length ≤ 20000 ∧ ∀ c ∈ l.cells, c.href.length ≤ 160007) := Lib.hid (by
       have h3 := HQ.out.1
       have h4 := sizeD_step HT.out
       have h5 := HA.out.1
       refine ⟨by omega, fun x hx => ?_⟩
       rw [take_some HT.out, List.mem_append] at hx
       rcases hx with hx | hx
       ·exact HA.out.2 x hx
       ·rw [List.mem_singleton] at hx
        subst hx
        exact ⟨by omega, fun c hc => HQ.out.2 h2 c (by rw [List.take_length]; exact hc)⟩)
      go_wp2_with fail
      go_roundw
      case rel => exact ⟨k + 1, m', hlt, by go_num, rfl, h2, HN, hb2⟩
      case measure => simp [intOf]; omega
   ·obtain rfl : k = d.length := by omega
    have HF : Hid (Sml d) := Lib.hid (by
     have h1 := HA.out
     rw [List.take_length] at h1
     exact ⟨by omega, by omega, h1.2⟩)
    have HB := Lib.hid hb
    clear hb
    go_wp2_with fail
    go_ret
    exact ⟨false, rfl, fun _ => HF.out, HB.out⟩
end Go.Proofs.YteognfhemmogpaaGreatDoor
namespace Go.Proofs.YteognfhemmogpaaGreatDoor
open Go.RowKit
open Go.Proofs.Qw
theorem guardAtt : Tryz.prog.eqGuardType Tryz.prog.depth 90 = false := by kernel_rfl
theorem run_neq_att (x y : Att) (w : World) : (binOp .neq 90 (.agg #[.string ⟨x.name.toArray⟩, .string ⟨x.value.toArray⟩]) (.agg #[.string ⟨y.name.toArray⟩, .string ⟨y.value.toArray⟩])).run Tryz.prog w = .ok (.bool (!decide (x = y))) w := by
 have h1 : Tryz.prog.stoodInHeld 90 = false := by kernel_rfl
 have h2 : Tryz.prog.underlying 90 = some (.struct (Tryz.prog.fieldsOf 90)) := by kernel_rfl
 rw [run_neq_struct, show (10000:Nat) = 9999 + 1 from rfl, run_equalIn_agg _ _ _ _ _ h2 h1]
 simp [Tryz.underlying90, go_sem]
 obtain ⟨b, c⟩ := x
 obtain ⟨e, f⟩ := y
 simp only [Att.mk.injEq]
 by_cases e2 : b = e <;> by_cases e3 : c = f <;> simp [e2, e3]
set_option maxRecDepth 100000 in
set_option maxHeartbeats 4000000 in
theorem equalAtt_any (v1 v2 : Value) (d1 d2 : List Att) (w : World) (S1 S2 : Nat → Prop) (h1 : AttsR false w S1 v1 d1) (h2 : AttsR false w S2 v2 d2) :
  Calls Tryz.prog 62 #[v1, v2] w fun e w' => e = .returned (.bool (decide (d1 = d2))) ∧ Below w.heap.size w w' := by
 obtain ⟨a, c, rfl, hc, hm, hx⟩ := atts_shape h1
 obtain ⟨a2, c2, rfl, hc2, hm2, hx2⟩ := atts_shape h2
 have HX := Lib.hid hx
 have HX2 := Lib.hid hx2
 clear hx hx2 h1 h2
 unfold maxLen at hm hm2
 go_enter Tryz.func62, Tryz.ntmps62
 by_cases hl : d1.length = d2.length
 ·have HL := Lib.hid hl
  have hlb : ((d1.length : Int) != d2.length) = false := by simp [hl]
  clear hl
  go_wp2_with fail
  go_loopw [13, 5] (fun i _ wr => ∃ k : Nat, k ≤ d1.length ∧ i = .int .i64 k ∧ Hid (d1.take k = d2.take k) ∧ Below w.heap.size w wr) (fun i _ _ => d1.length - (intOf i).toNat)
  case atStart => exact ⟨0, Nat.zero_le _, rfl, Lib.hid rfl, Below.refl _ _⟩
  case round =>
   obtain ⟨k, hk, rfl, HE, hb⟩ := hrel
   by_cases hlt : k < d1.length
   ·obtain ⟨x, hx, _⟩ := getOf d1 k hlt
    obtain ⟨y, hy, _⟩ := getOf d2 k (by have := HL.out; omega)
    obtain ⟨b, o, rfl, hz, c0, c1⟩ := HX.out k x hx; obtain ⟨b2, o2, rfl, hz2, k0, k1⟩ := HX2.out k y hy; have c0 := (hb.cell (p := ⟨b, o + k * 2, none⟩) hz).trans c0; have c1 := (hb.cell (p := ⟨b, o + k * 2 + 1, none⟩) hz).trans c1; have k0 := (hb.cell (p := ⟨b2, o2 + k * 2, none⟩) hz2).trans k0; have k1 := (hb.cell (p := ⟨b2, o2 + k * 2 + 1, none⟩) hz2).trans k1
    have i0 : (0 : Int) ≤ (k : Int) := Int.natCast_nonneg _
    have i1 : (k : Int) < (d1.length : Int) := by omega
    have i2 : (k : Int) < (d2.length : Int) := by have := HL.out; omega
    have HXY := Lib.hid (And.intro hx hy)
    clear hx hy
    have hg := guardAtt
    have hcs : ((∀ w, (binOp .neq 90 (.agg #[.string ⟨x.name.toArray⟩, .string ⟨x.value.toArray⟩]) (.agg #[.string ⟨y.name.toArray⟩, .string ⟨y.value.toArray⟩])).run Tryz.prog w = .ok (.bool false) w) ∧ x = y) ∨ ((∀ w, (binOp .neq 90 (.agg #[.string ⟨x.name.toArray⟩, .string ⟨x.value.toArray⟩]) (.agg #[.string ⟨y.name.toArray⟩, .string ⟨y.value.toArray⟩])).run Tryz.prog w = .ok (.bool true) w) ∧ x ≠ y) := by (by_cases e : x = y; exact .inl ⟨fun w => by rw [run_neq_att, e]; simp, e⟩; exact .inr ⟨fun w => by rw [run_neq_att]; simp [e], e⟩)
    rcases hcs with ⟨hq, hxy⟩ | ⟨hq, hxy⟩
    ·have HE2 := Lib.hid (take_both HXY.out.1 HXY.out.2 HE.out hxy)
     clear hxy
     go_wp2_with fail
     go_quiet (fail)
     all_goals go_wp2_with fail
     go_roundw
     case rel => exact ⟨k + 1, hlt, by go_num, HE2, drewN_below hb⟩
     case measure => simp [intOf]; omega
    all_goals
     have HN := Lib.hid (ne_at HXY.out.1 HXY.out.2 hxy)
     clear hxy
     go_wp2_with fail
     go_quiet (fail)
     all_goals go_wp2_with fail
     go_ret
     exact ⟨by rw [decide_eq_false HN.out]; rfl, drewN_below hb⟩
   ·obtain rfl : k = d1.length := by omega
    have HD : Hid (d1 = d2) := Lib.hid (by have h1 := HE.out; have h2 := HL.out; rw [List.take_length, h2, List.take_length] at h1; exact h1)
    have HB := Lib.hid hb
    clear hb
    go_wp2_with fail
    go_ret
    exact ⟨by rw [decide_eq_true HD.out]; rfl, HB.out⟩
 ·have hlb : ((d1.length : Int) != d2.length) = true := by simp; omega
  have HL : Hid (d1 ≠ d2) := Lib.hid fun e => hl (e ▸ rfl)
  clear hl
  go_wp2_with fail
  go_ret
  exact ⟨by rw [decide_eq_false HL.out]; rfl, Below.refl _ _⟩
theorem attrsSame_any (v1 v2 : Value) (d1 d2 : List Att) (w : World) (S1 S2 : Nat → Prop) (h1 : AttsR false w S1 v1 d1) (h2 : AttsR false w S2 v2 d2) :
  Calls Tryz.prog 38 #[v1, v2] w fun e w' => e = .returned (.bool (decide (d1 = d2))) ∧ Below w.heap.size w w' := by
 have HC := Lib.hid (equalAtt_any v1 v2 d1 d2 w S1 S2 h1 h2)
 clear h1 h2
 generalize decide (d1 = d2) = r at *
 go_enter Tryz.func38, Tryz.ntmps38
 go_wp2_with (go_at_call 62; refine HC.out.mono ?_; rintro e w1 ⟨rfl, hb1⟩)
 go_ret
 exact ⟨rfl, hb1⟩
end Go.Proofs.YteognfhemmogpaaGreatDoor
namespace Go.Proofs.Qw
open Go.RowKit
theorem tidyK_mem {t m : Int} : ∀ {ks : List Nod}, tidyK t ks m = true → ∀ k ∈ ks, mayT t k.tag = true ∧ (k.tag = 0 → k.text ≠ []) ∧ tidyN k m = true
 | [], _, k, hk => by cases hk
 | a :: ks, h, k, hk => by
  rw [tidyK] at h
  simp only [Bool.and_eq_true] at h
  obtain ⟨⟨⟨h1, h2⟩, h3⟩, h4⟩ := h
  rcases List.mem_cons.1 hk with rfl | hk
  ·exact ⟨h1, fun e e2 => by simp [e, e2] at h2, h3⟩
  ·exact tidyK_mem h4 k hk
theorem sides_at : ∀ {ks : List Nod}, sides ks = true → ∀ (j : Nat) (a b : Nod), ks[j]? = some a → ks[j + 1]? = some b → sideOk a b = true
 | [], _, j, a, b, h, _ => by simp at h
 | [x], _, j, a, b, _, h => by simp at h
 | x :: y :: l, h, 0, a, b, h1, h2 => by
  have h : (sideOk x y && sides (y :: l)) = true := h
  rw [Bool.and_eq_true] at h
  simp only [List.getElem?_cons_zero, List.getElem?_cons_succ, Option.some.injEq] at h1 h2
  subst h1; subst h2
  exact h.1
 | x :: y :: l, h, j + 1, a, b, h1, h2 => by
  have h : (sideOk x y && sides (y :: l)) = true := h
  rw [Bool.and_eq_true] at h
  exact sides_at h.2 j a b h1 h2
theorem tidy_parts {n : Nod} {m : Int} (h : tidyN n m = true) : (if n.tag = 10 then m + 1 else m) ≤ 1 ∧ (∀ k ∈ n.kids, mayT n.tag k.tag = true ∧ (k.tag = 0 → k.text ≠ []) ∧ tidyN k (if n.tag = 10 then m + 1 else m) = true) ∧
  ∀ (j : Nat) (a b : Nod), n.kids[j]? = some a → n.kids[j + 1]? = some b → sideOk a b = true := by
 cases n
 rw [tidyN] at h
 simp only [Bool.and_eq_true, decide_eq_true_eq] at h
 exact ⟨h.1.1, tidyK_mem h.1.2, sides_at h.2⟩
end Go.Proofs.Qw
namespace Go.Proofs.YteognfhemmogpaaGreatDoor
open Go.RowKit
open Go.Proofs.Qw
attribute [local go_sem ↓] Go.wp_at_zero Go.wp_at_succ
def TidyAt (h : Nat) : Prop := ∀ (n : Nod) (a k : Value) (m : Int) (w : World) (S : Nat → Prop), AttsR false w S a n.attrs → NodsR false h w S k n.kids → tidyN n m = true → 0 ≤ m → m ≤ 10 →
  Calls Tryz.prog 20 #[nodV n a k, .int .i64 m] w fun e w' => e = .returned (.bool true) ∧ Below w.heap.size w w'
set_option maxRecDepth 100000 in
set_option maxHeartbeats 4000000 in
theorem tidy_step (h : Nat) (ih : ∀ h', h = h' + 1 → TidyAt h') : TidyAt h := by
 intro n a kv m w S hA hK ht hm0 hm1
 obtain ⟨la, lc, rfl⟩ := hA.slice
 obtain ⟨ka, kc, rfl, hc, hm, hx⟩ := nods_shape hK
 obtain ⟨t1, t2, t3⟩ := tidy_parts ht
 have HX := Lib.hid hx
 have HI := Lib.hid ih
 have HT := Lib.hid (And.intro t2 t3)
 clear hA hK hx ih ht t2 t3
 unfold maxLen at hm
 obtain ⟨W1, hW1, hB, hz, hB1⟩ := one_node w (.int .i64 n.tag) (.slice la n.attrs.length lc) (.string ⟨n.text.toArray⟩) (.slice ka n.kids.length kc)
 have HZ := Lib.hid hz
 have H1 := Lib.hid hB1
 clear hz hB1
 have hs1 := hB.size
 obtain ⟨M, hM⟩ : ∃ M, (if n.tag = 10 then m + 1 else m) = M := ⟨_, rfl⟩
 have hcs : ((n.tag == 10) = true ∧ m + 1 = M) ∨ ((n.tag == 10) = false ∧ M = m) := by
  by_cases h : n.tag = 10
  ·exact .inl ⟨by simp [h], by rw [← hM, if_pos h]⟩
  ·exact .inr ⟨by simp [h], by rw [← hM, if_neg h]⟩
 rw [hM] at t1 HT
 have hM0 : 0 ≤ M ∧ M ≤ 10 := by omega
 have hd1 : decide (1 < M) = false := by simp; omega
 have hw1 : m + 1 = M → IntKind.i64.wrap (m + 1) = M := fun e => by rw [IntKind.wrap_i64]; omega
 obtain ⟨p1, f1⟩ := blk H1.out
 have HMM := Lib.hid hM0
 clear hM hM0 t1
 rcases hcs with ⟨e10, e11⟩ | ⟨e10, rfl⟩
 ·have hw1 := hw1 e11
  clear e11 hm0 hm1
  go_enter Tryz.func20, Tryz.ntmps20
  go_wp2_with fail
  go_loopw [5] (fun i wr => ∃ k : Nat, k ≤ n.kids.length ∧ i = .int .i64 k ∧ Below W1.heap.size W1 wr) (fun i _ => n.kids.length - (intOf i).toNat)
  case atStart => exact ⟨0, Nat.zero_le _, rfl, Below.refl _ _⟩
  case round =>
   obtain ⟨k, hk, rfl, hb⟩ := hrel
   obtain ⟨p2, f2⟩ := blk (heap_below hb H1.out)
   by_cases hlt : k < n.kids.length
   ·obtain ⟨x, hl, hd⟩ := getOf n.kids k hlt
    obtain ⟨b, o, xa, xc, ya, yc, h', rfl, rfl, hA⟩ := HX.out k x hl
    have hbw : Below w.heap.size w wr := hB.trans (hb.mono hs1)
    obtain ⟨r1, r2, r3⟩ := HT.out.1 x (List.mem_of_getElem? hl)
    have HM : Hid (∀ W, Calls Tryz.prog 36 #[.int .i64 n.tag, .int .i64 x.tag] W fun e w' => e = .returned (.bool true) ∧ Below W.heap.size W w') := Lib.hid fun W => r1 ▸ tagsMay_any n.tag x.tag W
    have HC : Hid (∀ W, Calls Tryz.prog 37 #[.int .i64 x.tag] W fun e w' => e = .returned (.int .i64 (tagC x.tag)) ∧ Below W.heap.size W w') := Lib.hid fun W => tagsClass_any x.tag W
    have HW : Hid (∀ W, Below w.heap.size w W → Calls Tryz.prog 20 #[nodV x (.slice xa x.attrs.length xc) (.slice ya x.kids.length yc), .int .i64 M] W fun e w' => e = .returned (.bool true) ∧ Below W.heap.size W w') :=
     Lib.hid fun W hW => HI.out h' rfl x _ _ M W S (hA.below hW).attrsR (hA.below hW).kidsR r3 HMM.out.1 HMM.out.2
    have hax := hA
    obtain ⟨_, c0, c1, c2, c3, _, _⟩ := hA.below hbw
    have hbs := hb.size
    have z0 := HZ.out
    have zlt : w.heap.size < wr.heap.size := by omega
    have HN0 := Lib.hid (heap_below hb H1.out)
    have hx0 : ((x.tag == 0) = true ∧ (x.text == []) = false) ∨ (x.tag == 0) = false := by
     by_cases h0 : x.tag = 0
     ·exact .inl ⟨by simp [h0], by have := r2 h0; simpa using this⟩
     ·exact .inr (by simp [h0])
    clear r1 r2 r3 hA
    have hks : ((k : Int) == 0) = true ∨ (((k : Int) == 0) = false ∧ ∃ j : Nat, Hid (j + 1 = k) ∧ IntKind.i64.wrap ((k : Int) - 1) = (j : Int)) := by
     by_cases h0 : k = 0
     ·exact .inl (by simp [h0])
     ·exact .inr ⟨by simpa using h0, k - 1, Lib.hid (by omega), by rw [IntKind.wrap_i64]; omega⟩
    rcases hx0 with ⟨h01, h02⟩ | h01
    ·rcases hks with hkb | ⟨hkb, j, hj, hwj⟩
     ·clear hd
      go_wp2_with (first
       | (go_at_call 36; refine (HM.out _).mono ?_; rintro e w2 ⟨rfl, hb2⟩; have hx2 : Below w.heap.size w w2 := below_from (hbw.alloc hbw.size _) hb2; have hy2 : Below W1.heap.size W1 w2 := below_from (hb.alloc hb.size _) hb2; have hn2 := heap_below hb2 (heap_old _ _ HN0.out); have hk2 := heap_below hb2 (heap_new _ _ rfl); obtain ⟨q1, g1⟩ := blk hn2; obtain ⟨q2, g2⟩ := blk hk2)
       | (go_at_call 20; refine (HW.out _ hx2).mono ?_; rintro e w3 ⟨rfl, hb3⟩; have hn3 := heap_below hb3 hn2; have hk3 := heap_below hb3 hk2; obtain ⟨q3, g3⟩ := blk hn3; obtain ⟨q4, g4⟩ := blk hk3))
      go_roundw
      case rel => exact ⟨k + 1, hlt, by go_num, below_from hy2 hb3⟩
      case measure => simp [intOf]; omega
     ·obtain ⟨y, hly, _⟩ := getOf n.kids j (by have := hj.out; omega)
      obtain ⟨b2, o2, xa2, xc2, ya2, yc2, h2, e1, e2, hA2⟩ := HX.out j y hly
      cases e1
      cases e2
      have HA2 := Lib.hid hA2
      have hso := HT.out.2 j y x hly (by rw [hj.out]; exact hl)
      have HSm : Hid (∀ W, Below w.heap.size w W → Calls Tryz.prog 38 #[.slice xa2 y.attrs.length xc2, .slice xa x.attrs.length xc] W fun e w' => e = .returned (.bool (decide (y.attrs = x.attrs))) ∧ Below W.heap.size W w') := Lib.hid fun W hW => attrsSame_any _ _ _ _ W S S (hA2.below hW).attrsR (hax.below hW).attrsR
      have i1 : (j : Int) < (n.kids.length : Int) := by have := hj.out; omega
      have i0 : (0 : Int) ≤ (j : Int) := Int.natCast_nonneg _
      have hcc : (y.tag != x.tag) = true ∨ ((y.tag != x.tag) = false ∧ (tagC x.tag == 1) = false ∧ (tagC x.tag == 2) = false ∧ ((tagC x.tag == 4) = false ∨ ((tagC x.tag == 4) = true ∧ decide (y.attrs = x.attrs) = false))) := by
       unfold sideOk at hso
       by_cases g1 : y.tag = x.tag <;> by_cases g2 : tagC x.tag = 1 <;> by_cases g3 : tagC x.tag = 2 <;> by_cases g4 : tagC x.tag = 4 <;> simp_all
      clear hd hA2 hax hso hly hl
      generalize tagC x.tag = cc at *
      generalize decide (y.attrs = x.attrs) = sm at *
      rcases hcc with hcc | ⟨hcc, hc1, hc2, hcc4⟩
      ·go_wp2_with (first
        | (go_at_call 36; refine (HM.out _).mono ?_; rintro e w2 ⟨rfl, hb2⟩; have hx2 : Below w.heap.size w w2 := below_from (hbw.alloc hbw.size _) hb2; have hy2 : Below W1.heap.size W1 w2 := below_from (hb.alloc hb.size _) hb2; have hn2 := heap_below hb2 (heap_old _ _ HN0.out); have hk2 := heap_below hb2 (heap_new _ _ rfl); obtain ⟨q1, g1⟩ := blk hn2; obtain ⟨q2, g2⟩ := blk hk2)
        | (go_at_call 20; refine (HW.out _ hx2).mono ?_; rintro e w3 ⟨rfl, hb3⟩; have hx3 := below_from hx2 hb3; have hy3 := below_from hy2 hb3; have hn3 := heap_below hb3 hn2; have hk3 := heap_below hb3 hk2; obtain ⟨q3, g3⟩ := blk hn3; obtain ⟨q4, g4⟩ := blk hk3; obtain ⟨_, d0, d1, d2, d3, _, _⟩ := HA2.out.below hx3; have zk : wr.heap.size < w3.heap.size := by (have h1 := hb2.size; have h2 := hb3.size; simp only [World.alloc, Array.size_push] at h1; omega)))
       go_roundw
       case rel => exact ⟨k + 1, hlt, by go_num, (hy3.alloc hy3.size _)⟩
       case measure => simp [intOf]; omega
      ·rcases hcc4 with hc4 | ⟨hc4, hsm⟩
       ·go_wp2_with (first
         | (go_at_call 36; refine (HM.out _).mono ?_; rintro e w2 ⟨rfl, hb2⟩; have hx2 : Below w.heap.size w w2 := below_from (hbw.alloc hbw.size _) hb2; have hy2 : Below W1.heap.size W1 w2 := below_from (hb.alloc hb.size _) hb2; have hn2 := heap_below hb2 (heap_old _ _ HN0.out); have hk2 := heap_below hb2 (heap_new _ _ rfl); obtain ⟨q1, g1⟩ := blk hn2; obtain ⟨q2, g2⟩ := blk hk2)
         | (go_at_call 20; refine (HW.out _ hx2).mono ?_; rintro e w3 ⟨rfl, hb3⟩; have hx3 := below_from hx2 hb3; have hy3 := below_from hy2 hb3; have hn3 := heap_below hb3 hn2; have hk3 := heap_below hb3 hk2; obtain ⟨q3, g3⟩ := blk hn3; obtain ⟨q4, g4⟩ := blk hk3; obtain ⟨_, d0, d1, d2, d3, _, _⟩ := HA2.out.below hx3; have zk : wr.heap.size < w3.heap.size := by (have h1 := hb2.size; have h2 := hb3.size; simp only [World.alloc, Array.size_push] at h1; omega))
         | (go_at_call 37; refine (HC.out _).mono ?_; rintro e w4 ⟨rfl, hb4⟩; have hx4 : Below w.heap.size w w4 := below_from (hx3.alloc hx3.size _) hb4; have hy4 : Below W1.heap.size W1 w4 := below_from (hy3.alloc hy3.size _) hb4; have hk4 := heap_below hb4 (heap_old _ _ hk3); have hl4 := heap_below hb4 (heap_new _ _ rfl); obtain ⟨q5, g5⟩ := blk hk4; obtain ⟨q6, g6⟩ := blk hl4))
        go_roundw
        case rel => exact ⟨k + 1, hlt, by go_num, hy4⟩
        case measure => simp [intOf]; omega
       ·go_wp2_with (first
         | (go_at_call 36; refine (HM.out _).mono ?_; rintro e w2 ⟨rfl, hb2⟩; have hx2 : Below w.heap.size w w2 := below_from (hbw.alloc hbw.size _) hb2; have hy2 : Below W1.heap.size W1 w2 := below_from (hb.alloc hb.size _) hb2; have hn2 := heap_below hb2 (heap_old _ _ HN0.out); have hk2 := heap_below hb2 (heap_new _ _ rfl); obtain ⟨q1, g1⟩ := blk hn2; obtain ⟨q2, g2⟩ := blk hk2)
         | (go_at_call 20; refine (HW.out _ hx2).mono ?_; rintro e w3 ⟨rfl, hb3⟩; have hx3 := below_from hx2 hb3; have hy3 := below_from hy2 hb3; have hn3 := heap_below hb3 hn2; have hk3 := heap_below hb3 hk2; obtain ⟨q3, g3⟩ := blk hn3; obtain ⟨q4, g4⟩ := blk hk3; obtain ⟨_, d0, d1, d2, d3, _, _⟩ := HA2.out.below hx3; have zk : wr.heap.size < w3.heap.size := by (have h1 := hb2.size; have h2 := hb3.size; simp only [World.alloc, Array.size_push] at h1; omega))
         | (go_at_call 37; refine (HC.out _).mono ?_; rintro e w4 ⟨rfl, hb4⟩; have hx4 : Below w.heap.size w w4 := below_from (hx3.alloc hx3.size _) hb4; have hy4 : Below W1.heap.size W1 w4 := below_from (hy3.alloc hy3.size _) hb4; have hk4 := heap_below hb4 (heap_old _ _ hk3); have hl4 := heap_below hb4 (heap_new _ _ rfl); obtain ⟨q5, g5⟩ := blk hk4; obtain ⟨q6, g6⟩ := blk hl4)
         | (go_at_call 38; refine (HSm.out _ hx4).mono ?_; rintro e w5 ⟨rfl, hb5⟩))
        go_roundw
        case rel => exact ⟨k + 1, hlt, by go_num, below_from hy4 hb5⟩
        case measure => simp [intOf]; omega
    ·rcases hks with hkb | ⟨hkb, j, hj, hwj⟩
     ·clear hd
      go_wp2_with (first
       | (go_at_call 36; refine (HM.out _).mono ?_; rintro e w2 ⟨rfl, hb2⟩; have hx2 : Below w.heap.size w w2 := below_from (hbw.alloc hbw.size _) hb2; have hy2 : Below W1.heap.size W1 w2 := below_from (hb.alloc hb.size _) hb2; have hn2 := heap_below hb2 (heap_old _ _ HN0.out); have hk2 := heap_below hb2 (heap_new _ _ rfl); obtain ⟨q1, g1⟩ := blk hn2; obtain ⟨q2, g2⟩ := blk hk2)
       | (go_at_call 20; refine (HW.out _ hx2).mono ?_; rintro e w3 ⟨rfl, hb3⟩; have hn3 := heap_below hb3 hn2; have hk3 := heap_below hb3 hk2; obtain ⟨q3, g3⟩ := blk hn3; obtain ⟨q4, g4⟩ := blk hk3))
      go_roundw
      case rel => exact ⟨k + 1, hlt, by go_num, below_from hy2 hb3⟩
      case measure => simp [intOf]; omega
     ·obtain ⟨y, hly, _⟩ := getOf n.kids j (by have := hj.out; omega)
      obtain ⟨b2, o2, xa2, xc2, ya2, yc2, h2, e1, e2, hA2⟩ := HX.out j y hly
      cases e1
      cases e2
      have HA2 := Lib.hid hA2
      have hso := HT.out.2 j y x hly (by rw [hj.out]; exact hl)
      have HSm : Hid (∀ W, Below w.heap.size w W → Calls Tryz.prog 38 #[.slice xa2 y.attrs.length xc2, .slice xa x.attrs.length xc] W fun e w' => e = .returned (.bool (decide (y.attrs = x.attrs))) ∧ Below W.heap.size W w') := Lib.hid fun W hW => attrsSame_any _ _ _ _ W S S (hA2.below hW).attrsR (hax.below hW).attrsR
      have i1 : (j : Int) < (n.kids.length : Int) := by have := hj.out; omega
      have i0 : (0 : Int) ≤ (j : Int) := Int.natCast_nonneg _
      have hcc : (y.tag != x.tag) = true ∨ ((y.tag != x.tag) = false ∧ (tagC x.tag == 1) = false ∧ (tagC x.tag == 2) = false ∧ ((tagC x.tag == 4) = false ∨ ((tagC x.tag == 4) = true ∧ decide (y.attrs = x.attrs) = false))) := by
       unfold sideOk at hso
       by_cases g1 : y.tag = x.tag <;> by_cases g2 : tagC x.tag = 1 <;> by_cases g3 : tagC x.tag = 2 <;> by_cases g4 : tagC x.tag = 4 <;> simp_all
      clear hd hA2 hax hso hly hl
      generalize tagC x.tag = cc at *
      generalize decide (y.attrs = x.attrs) = sm at *
      rcases hcc with hcc | ⟨hcc, hc1, hc2, hcc4⟩
      ·go_wp2_with (first
        | (go_at_call 36; refine (HM.out _).mono ?_; rintro e w2 ⟨rfl, hb2⟩; have hx2 : Below w.heap.size w w2 := below_from (hbw.alloc hbw.size _) hb2; have hy2 : Below W1.heap.size W1 w2 := below_from (hb.alloc hb.size _) hb2; have hn2 := heap_below hb2 (heap_old _ _ HN0.out); have hk2 := heap_below hb2 (heap_new _ _ rfl); obtain ⟨q1, g1⟩ := blk hn2; obtain ⟨q2, g2⟩ := blk hk2)
        | (go_at_call 20; refine (HW.out _ hx2).mono ?_; rintro e w3 ⟨rfl, hb3⟩; have hx3 := below_from hx2 hb3; have hy3 := below_from hy2 hb3; have hn3 := heap_below hb3 hn2; have hk3 := heap_below hb3 hk2; obtain ⟨q3, g3⟩ := blk hn3; obtain ⟨q4, g4⟩ := blk hk3; obtain ⟨_, d0, d1, d2, d3, _, _⟩ := HA2.out.below hx3; have zk : wr.heap.size < w3.heap.size := by (have h1 := hb2.size; have h2 := hb3.size; simp only [World.alloc, Array.size_push] at h1; omega)))
       go_roundw
       case rel => exact ⟨k + 1, hlt, by go_num, (hy3.alloc hy3.size _)⟩
       case measure => simp [intOf]; omega
      ·rcases hcc4 with hc4 | ⟨hc4, hsm⟩
       ·go_wp2_with (first
         | (go_at_call 36; refine (HM.out _).mono ?_; rintro e w2 ⟨rfl, hb2⟩; have hx2 : Below w.heap.size w w2 := below_from (hbw.alloc hbw.size _) hb2; have hy2 : Below W1.heap.size W1 w2 := below_from (hb.alloc hb.size _) hb2; have hn2 := heap_below hb2 (heap_old _ _ HN0.out); have hk2 := heap_below hb2 (heap_new _ _ rfl); obtain ⟨q1, g1⟩ := blk hn2; obtain ⟨q2, g2⟩ := blk hk2)
         | (go_at_call 20; refine (HW.out _ hx2).mono ?_; rintro e w3 ⟨rfl, hb3⟩; have hx3 := below_from hx2 hb3; have hy3 := below_from hy2 hb3; have hn3 := heap_below hb3 hn2; have hk3 := heap_below hb3 hk2; obtain ⟨q3, g3⟩ := blk hn3; obtain ⟨q4, g4⟩ := blk hk3; obtain ⟨_, d0, d1, d2, d3, _, _⟩ := HA2.out.below hx3; have zk : wr.heap.size < w3.heap.size := by (have h1 := hb2.size; have h2 := hb3.size; simp only [World.alloc, Array.size_push] at h1; omega))
         | (go_at_call 37; refine (HC.out _).mono ?_; rintro e w4 ⟨rfl, hb4⟩; have hx4 : Below w.heap.size w w4 := below_from (hx3.alloc hx3.size _) hb4; have hy4 : Below W1.heap.size W1 w4 := below_from (hy3.alloc hy3.size _) hb4; have hk4 := heap_below hb4 (heap_old _ _ hk3); have hl4 := heap_below hb4 (heap_new _ _ rfl); obtain ⟨q5, g5⟩ := blk hk4; obtain ⟨q6, g6⟩ := blk hl4))
        go_roundw
        case rel => exact ⟨k + 1, hlt, by go_num, hy4⟩
        case measure => simp [intOf]; omega
       ·go_wp2_with (first
         | (go_at_call 36; refine (HM.out _).mono ?_; rintro e w2 ⟨rfl, hb2⟩; have hx2 : Below w.heap.size w w2 := below_from (hbw.alloc hbw.size _) hb2; have hy2 : Below W1.heap.size W1 w2 := below_from (hb.alloc hb.size _) hb2; have hn2 := heap_below hb2 (heap_old _ _ HN0.out); have hk2 := heap_below hb2 (heap_new _ _ rfl); obtain ⟨q1, g1⟩ := blk hn2; obtain ⟨q2, g2⟩ := blk hk2)
         | (go_at_call 20; refine (HW.out _ hx2).mono ?_; rintro e w3 ⟨rfl, hb3⟩; have hx3 := below_from hx2 hb3; have hy3 := below_from hy2 hb3; have hn3 := heap_below hb3 hn2; have hk3 := heap_below hb3 hk2; obtain ⟨q3, g3⟩ := blk hn3; obtain ⟨q4, g4⟩ := blk hk3; obtain ⟨_, d0, d1, d2, d3, _, _⟩ := HA2.out.below hx3; have zk : wr.heap.size < w3.heap.size := by (have h1 := hb2.size; have h2 := hb3.size; simp only [World.alloc, Array.size_push] at h1; omega))
         | (go_at_call 37; refine (HC.out _).mono ?_; rintro e w4 ⟨rfl, hb4⟩; have hx4 : Below w.heap.size w w4 := below_from (hx3.alloc hx3.size _) hb4; have hy4 : Below W1.heap.size W1 w4 := below_from (hy3.alloc hy3.size _) hb4; have hk4 := heap_below hb4 (heap_old _ _ hk3); have hl4 := heap_below hb4 (heap_new _ _ rfl); obtain ⟨q5, g5⟩ := blk hk4; obtain ⟨q6, g6⟩ := blk hl4)
         | (go_at_call 38; refine (HSm.out _ hx4).mono ?_; rintro e w5 ⟨rfl, hb5⟩))
        go_roundw
        case rel => exact ⟨k + 1, hlt, by go_num, below_from hy4 hb5⟩
        case measure => simp [intOf]; omega
   ·obtain rfl : k = n.kids.length := by omega
    have HB := Lib.hid (hB.trans (hb.mono hB.size))
    clear hb
    go_wp2_with fail
    go_ret
    exact ⟨rfl, HB.out⟩
 ·clear hw1 hm0 hm1
  go_enter Tryz.func20, Tryz.ntmps20
  go_wp2_with fail
  go_loopw [5] (fun i wr => ∃ k : Nat, k ≤ n.kids.length ∧ i = .int .i64 k ∧ Below W1.heap.size W1 wr) (fun i _ => n.kids.length - (intOf i).toNat)
  case atStart => exact ⟨0, Nat.zero_le _, rfl, Below.refl _ _⟩
  case round =>
   obtain ⟨k, hk, rfl, hb⟩ := hrel
   obtain ⟨p2, f2⟩ := blk (heap_below hb H1.out)
   by_cases hlt : k < n.kids.length
   ·obtain ⟨x, hl, hd⟩ := getOf n.kids k hlt
    obtain ⟨b, o, xa, xc, ya, yc, h', rfl, rfl, hA⟩ := HX.out k x hl
    have hbw : Below w.heap.size w wr := hB.trans (hb.mono hs1)
    obtain ⟨r1, r2, r3⟩ := HT.out.1 x (List.mem_of_getElem? hl)
    have HM : Hid (∀ W, Calls Tryz.prog 36 #[.int .i64 n.tag, .int .i64 x.tag] W fun e w' => e = .returned (.bool true) ∧ Below W.heap.size W w') := Lib.hid fun W => r1 ▸ tagsMay_any n.tag x.tag W
    have HC : Hid (∀ W, Calls Tryz.prog 37 #[.int .i64 x.tag] W fun e w' => e = .returned (.int .i64 (tagC x.tag)) ∧ Below W.heap.size W w') := Lib.hid fun W => tagsClass_any x.tag W
    have HW : Hid (∀ W, Below w.heap.size w W → Calls Tryz.prog 20 #[nodV x (.slice xa x.attrs.length xc) (.slice ya x.kids.length yc), .int .i64 M] W fun e w' => e = .returned (.bool true) ∧ Below W.heap.size W w') :=
     Lib.hid fun W hW => HI.out h' rfl x _ _ M W S (hA.below hW).attrsR (hA.below hW).kidsR r3 HMM.out.1 HMM.out.2
    have hax := hA
    obtain ⟨_, c0, c1, c2, c3, _, _⟩ := hA.below hbw
    have hbs := hb.size
    have z0 := HZ.out
    have zlt : w.heap.size < wr.heap.size := by omega
    have HN0 := Lib.hid (heap_below hb H1.out)
    have hx0 : ((x.tag == 0) = true ∧ (x.text == []) = false) ∨ (x.tag == 0) = false := by
     by_cases h0 : x.tag = 0
     ·exact .inl ⟨by simp [h0], by have := r2 h0; simpa using this⟩
     ·exact .inr (by simp [h0])
    clear r1 r2 r3 hA
    have hks : ((k : Int) == 0) = true ∨ (((k : Int) == 0) = false ∧ ∃ j : Nat, Hid (j + 1 = k) ∧ IntKind.i64.wrap ((k : Int) - 1) = (j : Int)) := by
     by_cases h0 : k = 0
     ·exact .inl (by simp [h0])
     ·exact .inr ⟨by simpa using h0, k - 1, Lib.hid (by omega), by rw [IntKind.wrap_i64]; omega⟩
    rcases hx0 with ⟨h01, h02⟩ | h01
    ·rcases hks with hkb | ⟨hkb, j, hj, hwj⟩
     ·clear hd
      go_wp2_with (first
       | (go_at_call 36; refine (HM.out _).mono ?_; rintro e w2 ⟨rfl, hb2⟩; have hx2 : Below w.heap.size w w2 := below_from (hbw.alloc hbw.size _) hb2; have hy2 : Below W1.heap.size W1 w2 := below_from (hb.alloc hb.size _) hb2; have hn2 := heap_below hb2 (heap_old _ _ HN0.out); have hk2 := heap_below hb2 (heap_new _ _ rfl); obtain ⟨q1, g1⟩ := blk hn2; obtain ⟨q2, g2⟩ := blk hk2)
       | (go_at_call 20; refine (HW.out _ hx2).mono ?_; rintro e w3 ⟨rfl, hb3⟩; have hn3 := heap_below hb3 hn2; have hk3 := heap_below hb3 hk2; obtain ⟨q3, g3⟩ := blk hn3; obtain ⟨q4, g4⟩ := blk hk3))
      go_roundw
      case rel => exact ⟨k + 1, hlt, by go_num, below_from hy2 hb3⟩
      case measure => simp [intOf]; omega
     ·obtain ⟨y, hly, _⟩ := getOf n.kids j (by have := hj.out; omega)
      obtain ⟨b2, o2, xa2, xc2, ya2, yc2, h2, e1, e2, hA2⟩ := HX.out j y hly
      cases e1
      cases e2
      have HA2 := Lib.hid hA2
      have hso := HT.out.2 j y x hly (by rw [hj.out]; exact hl)
      have HSm : Hid (∀ W, Below w.heap.size w W → Calls Tryz.prog 38 #[.slice xa2 y.attrs.length xc2, .slice xa x.attrs.length xc] W fun e w' => e = .returned (.bool (decide (y.attrs = x.attrs))) ∧ Below W.heap.size W w') := Lib.hid fun W hW => attrsSame_any _ _ _ _ W S S (hA2.below hW).attrsR (hax.below hW).attrsR
      have i1 : (j : Int) < (n.kids.length : Int) := by have := hj.out; omega
      have i0 : (0 : Int) ≤ (j : Int) := Int.natCast_nonneg _
      have hcc : (y.tag != x.tag) = true ∨ ((y.tag != x.tag) = false ∧ (tagC x.tag == 1) = false ∧ (tagC x.tag == 2) = false ∧ ((tagC x.tag == 4) = false ∨ ((tagC x.tag == 4) = true ∧ decide (y.attrs = x.attrs) = false))) := by
       unfold sideOk at hso
       by_cases g1 : y.tag = x.tag <;> by_cases g2 : tagC x.tag = 1 <;> by_cases g3 : tagC x.tag = 2 <;> by_cases g4 : tagC x.tag = 4 <;> simp_all
      clear hd hA2 hax hso hly hl
      generalize tagC x.tag = cc at *
      generalize decide (y.attrs = x.attrs) = sm at *
      rcases hcc with hcc | ⟨hcc, hc1, hc2, hcc4⟩
      ·go_wp2_with (first
        | (go_at_call 36; refine (HM.out _).mono ?_; rintro e w2 ⟨rfl, hb2⟩; have hx2 : Below w.heap.size w w2 := below_from (hbw.alloc hbw.size _) hb2; have hy2 : Below W1.heap.size W1 w2 := below_from (hb.alloc hb.size _) hb2; have hn2 := heap_below hb2 (heap_old _ _ HN0.out); have hk2 := heap_below hb2 (heap_new _ _ rfl); obtain ⟨q1, g1⟩ := blk hn2; obtain ⟨q2, g2⟩ := blk hk2)
        | (go_at_call 20; refine (HW.out _ hx2).mono ?_; rintro e w3 ⟨rfl, hb3⟩; have hx3 := below_from hx2 hb3; have hy3 := below_from hy2 hb3; have hn3 := heap_below hb3 hn2; have hk3 := heap_below hb3 hk2; obtain ⟨q3, g3⟩ := blk hn3; obtain ⟨q4, g4⟩ := blk hk3; obtain ⟨_, d0, d1, d2, d3, _, _⟩ := HA2.out.below hx3; have zk : wr.heap.size < w3.heap.size := by (have h1 := hb2.size; have h2 := hb3.size; simp only [World.alloc, Array.size_push] at h1; omega)))
       go_roundw
       case rel => exact ⟨k + 1, hlt, by go_num, (hy3.alloc hy3.size _)⟩
       case measure => simp [intOf]; omega
      ·rcases hcc4 with hc4 | ⟨hc4, hsm⟩
       ·go_wp2_with (first
         | (go_at_call 36; refine (HM.out _).mono ?_; rintro e w2 ⟨rfl, hb2⟩; have hx2 : Below w.heap.size w w2 := below_from (hbw.alloc hbw.size _) hb2; have hy2 : Below W1.heap.size W1 w2 := below_from (hb.alloc hb.size _) hb2; have hn2 := heap_below hb2 (heap_old _ _ HN0.out); have hk2 := heap_below hb2 (heap_new _ _ rfl); obtain ⟨q1, g1⟩ := blk hn2; obtain ⟨q2, g2⟩ := blk hk2)
         | (go_at_call 20; refine (HW.out _ hx2).mono ?_; rintro e w3 ⟨rfl, hb3⟩; have hx3 := below_from hx2 hb3; have hy3 := below_from hy2 hb3; have hn3 := heap_below hb3 hn2; have hk3 := heap_below hb3 hk2; obtain ⟨q3, g3⟩ := blk hn3; obtain ⟨q4, g4⟩ := blk hk3; obtain ⟨_, d0, d1, d2, d3, _, _⟩ := HA2.out.below hx3; have zk : wr.heap.size < w3.heap.size := by (have h1 := hb2.size; have h2 := hb3.size; simp only [World.alloc, Array.size_push] at h1; omega))
         | (go_at_call 37; refine (HC.out _).mono ?_; rintro e w4 ⟨rfl, hb4⟩; have hx4 : Below w.heap.size w w4 := below_from (hx3.alloc hx3.size _) hb4; have hy4 : Below W1.heap.size W1 w4 := below_from (hy3.alloc hy3.size _) hb4; have hk4 := heap_below hb4 (heap_old _ _ hk3); have hl4 := heap_below hb4 (heap_new _ _ rfl); obtain ⟨q5, g5⟩ := blk hk4; obtain ⟨q6, g6⟩ := blk hl4))
        go_roundw
        case rel => exact ⟨k + 1, hlt, by go_num, hy4⟩
        case measure => simp [intOf]; omega
       ·go_wp2_with (first
         | (go_at_call 36; refine (HM.out _).mono ?_; rintro e w2 ⟨rfl, hb2⟩; have hx2 : Below w.heap.size w w2 := below_from (hbw.alloc hbw.size _) hb2; have hy2 : Below W1.heap.size W1 w2 := below_from (hb.alloc hb.size _) hb2; have hn2 := heap_below hb2 (heap_old _ _ HN0.out); have hk2 := heap_below hb2 (heap_new _ _ rfl); obtain ⟨q1, g1⟩ := blk hn2; obtain ⟨q2, g2⟩ := blk hk2)
         | (go_at_call 20; refine (HW.out _ hx2).mono ?_; rintro e w3 ⟨rfl, hb3⟩; have hx3 := below_from hx2 hb3; have hy3 := below_from hy2 hb3; have hn3 := heap_below hb3 hn2; have hk3 := heap_below hb3 hk2; obtain ⟨q3, g3⟩ := blk hn3; obtain ⟨q4, g4⟩ := blk hk3; obtain ⟨_, d0, d1, d2, d3, _, _⟩ := HA2.out.below hx3; have zk : wr.heap.size < w3.heap.size := by (have h1 := hb2.size; have h2 := hb3.size; simp only [World.alloc, Array.size_push] at h1; omega))
         | (go_at_call 37; refine (HC.out _).mono ?_; rintro e w4 ⟨rfl, hb4⟩; have hx4 : Below w.heap.size w w4 := below_from (hx3.alloc hx3.size _) hb4; have hy4 : Below W1.heap.size W1 w4 := below_from (hy3.alloc hy3.size _) hb4; have hk4 := heap_below hb4 (heap_old _ _ hk3); have hl4 := heap_below hb4 (heap_new _ _ rfl); obtain ⟨q5, g5⟩ := blk hk4; obtain ⟨q6, g6⟩ := blk hl4)
         | (go_at_call 38; refine (HSm.out _ hx4).mono ?_; rintro e w5 ⟨rfl, hb5⟩))
        go_roundw
        case rel => exact ⟨k + 1, hlt, by go_num, below_from hy4 hb5⟩
        case measure => simp [intOf]; omega
    ·rcases hks with hkb | ⟨hkb, j, hj, hwj⟩
     ·clear hd
      go_wp2_with (first
       | (go_at_call 36; refine (HM.out _).mono ?_; rintro e w2 ⟨rfl, hb2⟩; have hx2 : Below w.heap.size w w2 := below_from (hbw.alloc hbw.size _) hb2; have hy2 : Below W1.heap.size W1 w2 := below_from (hb.alloc hb.size _) hb2; have hn2 := heap_below hb2 (heap_old _ _ HN0.out); have hk2 := heap_below hb2 (heap_new _ _ rfl); obtain ⟨q1, g1⟩ := blk hn2; obtain ⟨q2, g2⟩ := blk hk2)
       | (go_at_call 20; refine (HW.out _ hx2).mono ?_; rintro e w3 ⟨rfl, hb3⟩; have hn3 := heap_below hb3 hn2; have hk3 := heap_below hb3 hk2; obtain ⟨q3, g3⟩ := blk hn3; obtain ⟨q4, g4⟩ := blk hk3))
      go_roundw
      case rel => exact ⟨k + 1, hlt, by go_num, below_from hy2 hb3⟩
      case measure => simp [intOf]; omega
     ·obtain ⟨y, hly, _⟩ := getOf n.kids j (by have := hj.out; omega)
      obtain ⟨b2, o2, xa2, xc2, ya2, yc2, h2, e1, e2, hA2⟩ := HX.out j y hly
      cases e1
      cases e2
      have HA2 := Lib.hid hA2
      have hso := HT.out.2 j y x hly (by rw [hj.out]; exact hl)
      have HSm : Hid (∀ W, Below w.heap.size w W → Calls Tryz.prog 38 #[.slice xa2 y.attrs.length xc2, .slice xa x.attrs.length xc] W fun e w' => e = .returned (.bool (decide (y.attrs = x.attrs))) ∧ Below W.heap.size W w') := Lib.hid fun W hW => attrsSame_any _ _ _ _ W S S (hA2.below hW).attrsR (hax.below hW).attrsR
      have i1 : (j : Int) < (n.kids.length : Int) := by have := hj.out; omega
      have i0 : (0 : Int) ≤ (j : Int) := Int.natCast_nonneg _
      have hcc : (y.tag != x.tag) = true ∨ ((y.tag != x.tag) = false ∧ (tagC x.tag == 1) = false ∧ (tagC x.tag == 2) = false ∧ ((tagC x.tag == 4) = false ∨ ((tagC x.tag == 4) = true ∧ decide (y.attrs = x.attrs) = false))) := by
       unfold sideOk at hso
       by_cases g1 : y.tag = x.tag <;> by_cases g2 : tagC x.tag = 1 <;> by_cases g3 : tagC x.tag = 2 <;> by_cases g4 : tagC x.tag = 4 <;> simp_all
      clear hd hA2 hax hso hly hl
      generalize tagC x.tag = cc at *
      generalize decide (y.attrs = x.attrs) = sm at *
      rcases hcc with hcc | ⟨hcc, hc1, hc2, hcc4⟩
      ·go_wp2_with (first
        | (go_at_call 36; refine (HM.out _).mono ?_; rintro e w2 ⟨rfl, hb2⟩; have hx2 : Below w.heap.size w w2 := below_from (hbw.alloc hbw.size _) hb2; have hy2 : Below W1.heap.size W1 w2 := below_from (hb.alloc hb.size _) hb2; have hn2 := heap_below hb2 (heap_old _ _ HN0.out); have hk2 := heap_below hb2 (heap_new _ _ rfl); obtain ⟨q1, g1⟩ := blk hn2; obtain ⟨q2, g2⟩ := blk hk2)
        | (go_at_call 20; refine (HW.out _ hx2).mono ?_; rintro e w3 ⟨rfl, hb3⟩; have hx3 := below_from hx2 hb3; have hy3 := below_from hy2 hb3; have hn3 := heap_below hb3 hn2; have hk3 := heap_below hb3 hk2; obtain ⟨q3, g3⟩ := blk hn3; obtain ⟨q4, g4⟩ := blk hk3; obtain ⟨_, d0, d1, d2, d3, _, _⟩ := HA2.out.below hx3; have zk : wr.heap.size < w3.heap.size := by (have h1 := hb2.size; have h2 := hb3.size; simp only [World.alloc, Array.size_push] at h1; omega)))
       go_roundw
       case rel => exact ⟨k + 1, hlt, by go_num, (hy3.alloc hy3.size _)⟩
       case measure => simp [intOf]; omega
      ·rcases hcc4 with hc4 | ⟨hc4, hsm⟩
       ·go_wp2_with (first
         | (go_at_call 36; refine (HM.out _).mono ?_; rintro e w2 ⟨rfl, hb2⟩; have hx2 : Below w.heap.size w w2 := below_from (hbw.alloc hbw.size _) hb2; have hy2 : Below W1.heap.size W1 w2 := below_from (hb.alloc hb.size _) hb2; have hn2 := heap_below hb2 (heap_old _ _ HN0.out); have hk2 := heap_below hb2 (heap_new _ _ rfl); obtain ⟨q1, g1⟩ := blk hn2; obtain ⟨q2, g2⟩ := blk hk2)
         | (go_at_call 20; refine (HW.out _ hx2).mono ?_; rintro e w3 ⟨rfl, hb3⟩; have hx3 := below_from hx2 hb3; have hy3 := below_from hy2 hb3; have hn3 := heap_below hb3 hn2; have hk3 := heap_below hb3 hk2; obtain ⟨q3, g3⟩ := blk hn3; obtain ⟨q4, g4⟩ := blk hk3; obtain ⟨_, d0, d1, d2, d3, _, _⟩ := HA2.out.below hx3; have zk : wr.heap.size < w3.heap.size := by (have h1 := hb2.size; have h2 := hb3.size; simp only [World.alloc, Array.size_push] at h1; omega))
         | (go_at_call 37; refine (HC.out _).mono ?_; rintro e w4 ⟨rfl, hb4⟩; have hx4 : Below w.heap.size w w4 := below_from (hx3.alloc hx3.size _) hb4; have hy4 : Below W1.heap.size W1 w4 := below_from (hy3.alloc hy3.size _) hb4; have hk4 := heap_below hb4 (heap_old _ _ hk3); have hl4 := heap_below hb4 (heap_new _ _ rfl); obtain ⟨q5, g5⟩ := blk hk4; obtain ⟨q6, g6⟩ := blk hl4))
        go_roundw
        case rel => exact ⟨k + 1, hlt, by go_num, hy4⟩
        case measure => simp [intOf]; omega
       ·go_wp2_with (first
         | (go_at_call 36; refine (HM.out _).mono ?_; rintro e w2 ⟨rfl, hb2⟩; have hx2 : Below w.heap.size w w2 := below_from (hbw.alloc hbw.size _) hb2; have hy2 : Below W1.heap.size W1 w2 := below_from (hb.alloc hb.size _) hb2; have hn2 := heap_below hb2 (heap_old _ _ HN0.out); have hk2 := heap_below hb2 (heap_new _ _ rfl); obtain ⟨q1, g1⟩ := blk hn2; obtain ⟨q2, g2⟩ := blk hk2)
         | (go_at_call 20; refine (HW.out _ hx2).mono ?_; rintro e w3 ⟨rfl, hb3⟩; have hx3 := below_from hx2 hb3; have hy3 := below_from hy2 hb3; have hn3 := heap_below hb3 hn2; have hk3 := heap_below hb3 hk2; obtain ⟨q3, g3⟩ := blk hn3; obtain ⟨q4, g4⟩ := blk hk3; obtain ⟨_, d0, d1, d2, d3, _, _⟩ := HA2.out.below hx3; have zk : wr.heap.size < w3.heap.size := by (have h1 := hb2.size; have h2 := hb3.size; simp only [World.alloc, Array.size_push] at h1; omega))
         | (go_at_call 37; refine (HC.out _).mono ?_; rintro e w4 ⟨rfl, hb4⟩; have hx4 : Below w.heap.size w w4 := below_from (hx3.alloc hx3.size _) hb4; have hy4 : Below W1.heap.size W1 w4 := below_from (hy3.alloc hy3.size _) hb4; have hk4 := heap_below hb4 (heap_old _ _ hk3); have hl4 := heap_below hb4 (heap_new _ _ rfl); obtain ⟨q5, g5⟩ := blk hk4; obtain ⟨q6, g6⟩ := blk hl4)
         | (go_at_call 38; refine (HSm.out _ hx4).mono ?_; rintro e w5 ⟨rfl, hb5⟩))
        go_roundw
        case rel => exact ⟨k + 1, hlt, by go_num, below_from hy4 hb5⟩
        case measure => simp [intOf]; omega
   ·obtain rfl : k = n.kids.length := by omega
    have HB := Lib.hid (hB.trans (hb.mono hB.size))
    clear hb
    go_wp2_with fail
    go_ret
    exact ⟨rfl, HB.out⟩
theorem tidy_all : ∀ h, TidyAt h
 | 0 => tidy_step 0 (fun _ e => by cases e)
 | h + 1 => tidy_step (h + 1) (fun h' e => by cases e; exact tidy_all h)
end Go.Proofs.YteognfhemmogpaaGreatDoor
