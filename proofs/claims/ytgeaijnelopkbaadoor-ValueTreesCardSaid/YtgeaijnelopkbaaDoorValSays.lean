/- Rows of one's own whose elements may lie in blocks of the row's own type: they lie apart from the row's own block. -/
import Derived.Test.YtgeaijnelopkbaaDoorNodR
import Derived.Deep.RegionHeld3
import Derived.Deep.DrawnRows
import Derived.Lib.SplitLaws
import Derived.Lib.IndexLaws
import Derived.Lib.TrimByte
import Derived.Lib.Join
import Derived.Laws.Entries
import Derived.Deep.Cut
import Derived.Deep.CutRange
set_option linter.unusedVariables false
set_option linter.unusedSimpArgs false
namespace Go.Proofs.Qw
open Go.RowKit Go.Proofs.YtgeaijnelopkbaaDoor
structure EltX {α : Type} (k : Nat) (R : Rd α) : Prop where
  pos : 0 < k
  len : ∀ w S vs x, R w S vs x → vs.length = k
  ones : ∀ w S vs x, R w S vs x → ∀ u ∈ vs, u.oneCell' = true
  st : Stable R
def RowX {α : Type} (t : TypeId) (k : Nat) (R : Rd α) (w : World) (n : Nat) (v : Value) (xs : List α) : Prop :=
  ∃ a c, v = .slice a xs.length c ∧ xs.length ≤ c ∧ c ≤ maxLen ∧ ((xs = [] ∧ c = 0) ∨ ∃ b o, a = some ⟨b, o, none⟩ ∧ n ≤ b ∧ b < w.heap.size ∧ (∃ cs, w.heap[b]? = some (.cells cs t) ∧ o + c * k ≤ cs.size) ∧
    ∀ i x, xs[i]? = some x → ∃ vs : List Value, vs.length = k ∧ R w (fun b' => n ≤ b' ∧ b' ≠ b) vs x ∧ ∀ j u, vs[j]? = some u → w.cell? ⟨b, o + i * k + j, none⟩ = some u)
def rowBlk : Value → Option Nat
  | .slice (some p) _ (_ + 1) => some p.block
  | _ => none
def NewsX {α : Type} (k : Nat) (R : Rd α) (w : World) (n : Nat) (v : Value) (news : List Value) (ys : List α) : Prop := NewsR k R w (fun b' => n ≤ b' ∧ rowBlk v ≠ some b') news ys
theorem RowX.nil {α : Type} (t : TypeId) (k : Nat) (R : Rd α) (w : World) (n : Nat) : RowX t k R w n (.slice none 0 0) [] := ⟨none, 0, rfl, Nat.le_refl _, by decide, .inl ⟨rfl, rfl⟩⟩
theorem RowX.row {α : Type} {t : TypeId} {k : Nat} {R : Rd α} (hR : Stable R) {w : World} {n : Nat} {v : Value} {xs : List α} (h : RowX t k R w n v xs) : SliceR t k R true w (fun b => n ≤ b) v xs := by
  obtain ⟨a, c, h1, h2, h3, ⟨h, h0⟩ | ⟨b, o, rfl, hb, hz, hf, he⟩⟩ := h
  · exact ⟨a, c, h1, h2, h3, .inl ⟨h, fun _ => h0⟩⟩
  · exact ⟨_, c, h1, h2, h3, .inr ⟨b, o, rfl, hb, hz, fun _ => hf, fun i x hx => by
      obtain ⟨vs, g1, g2, g3⟩ := he i x hx
      exact ⟨vs, g1, hR.go _ _ _ _ _ _ g2 (Keeps.refl _ _) (fun _ h _ => h.1), g3⟩⟩⟩
theorem RowX.below {α : Type} {t : TypeId} {k : Nat} {R : Rd α} (hR : Stable R) {w w' : World} {n : Nat} {v : Value} {xs : List α} (h : RowX t k R w n v xs) (hk : Keeps (fun b => n ≤ b) w w') : RowX t k R w' n v xs := by
  obtain ⟨a, c, h1, h2, h3, h | ⟨b, o, rfl, hb, hz, ⟨cs, f1, f2⟩, he⟩⟩ := h
  · exact ⟨a, c, h1, h2, h3, .inl h⟩
  · refine ⟨_, c, h1, h2, h3, .inr ⟨b, o, rfl, hb, Nat.lt_of_lt_of_le hz hk.size, ⟨cs, (hk.block b hb hz).trans f1, f2⟩, fun i x hx => ?_⟩⟩
    obtain ⟨vs, g1, g2, g3⟩ := he i x hx
    exact ⟨vs, g1, hR.go _ _ _ _ _ _ g2 ⟨hk.size, fun b' hb' hz' => hk.block b' hb'.1 hz'⟩ (fun _ h _ => h), fun j u hu => by rw [World.cell?_of_block (w := w) (hk.block b hb hz)]; exact g3 j u hu⟩
theorem RowX.slice {α : Type} {t : TypeId} {k : Nat} {R : Rd α} {w : World} {n : Nat} {v : Value} {xs : List α} (h : RowX t k R w n v xs) : ∃ a c, v = .slice a xs.length c := by
  obtain ⟨a, c, rfl, _⟩ := h
  exact ⟨a, c, rfl⟩
theorem RowX.apart {α : Type} {t : TypeId} {k : Nat} {R : Rd α} {w : World} {n : Nat} {v : Value} {xs : List α} (h : RowX t k R w n v xs) : ∀ b, rowBlk v = some b → b < w.heap.size := by
  obtain ⟨a, c, rfl, _, _, ⟨_, h0⟩ | ⟨b, o, rfl, hb, hz, _⟩⟩ := h
  · intro b hb
    subst h0
    cases a <;> cases hb
  · intro b' hb'
    cases c with
    | zero => cases hb'
    | succ c => cases hb'; exact hz
theorem news_apart {α : Type} {t : TypeId} {k : Nat} {R R' : Rd α} (hR : Stable R) {w0 w : World} {n : Nat} {v : Value} {xs ys : List α} {news : List Value} (h : RowX t k R' w0 n v xs) (hn : n ≤ w0.heap.size) (hnew : NewsR k R w (fun b => w0.heap.size ≤ b) news ys) : NewsX k R w n v news ys := fun i y hy => by
  obtain ⟨vs, h1, h2, h3⟩ := hnew i y hy
  refine ⟨vs, h1, hR.go _ _ _ _ _ _ h2 (Keeps.refl _ _) (fun b hb _ => ⟨Nat.le_trans hn hb, fun e => ?_⟩), h3⟩
  have := h.apart b e
  omega
theorem append_X {P : Program} {st tx ty t : TypeId} {k : Nat} (hT : RowT P st t k) {α : Type} {R : Rd α} (hE : EltX k R) {w : World} {n : Nat} {v x : Value} {xs ys : List α} {news : List Value}
    (h1 : RowX t k R w n v xs) (hn : n ≤ w.heap.size) (hs : Src P k tx x ys.length news w) (hnew : NewsX k R w n v news ys) (hlen : xs.length + ys.length ≤ 100000000) :
    ∃ v' w', (Builtin.append_ #[st, tx] ty #[v, x]).run P w = .ok v' w' ∧ RowX t k R w' n v' (xs ++ ys) ∧ Below n w w' ∧ w.grownBy w' v.ownBlock ∧ (v'.ownBlock = v.ownBlock ∨ v'.ownBlock = some w.heap.size) := by
  obtain ⟨i, z, hi, hz, rfl, hby, hzs⟩ := hT.info
  obtain ⟨a, c, rfl, hc, hcm, hx⟩ := h1
  have hbytes : (xs.length + ys.length) * i.bytes ≤ 140737488355328 := Nat.le_trans (Nat.mul_le_mul hlen hby) (by decide)
  by_cases hroom : xs.length + ys.length ≤ c
  · rcases hx with ⟨rfl, h0⟩ | ⟨b, o, rfl, hb, hzb, hf, he⟩
    · have hy : ys = [] := List.length_eq_zero_iff.1 (by simp at hroom; omega)
      subst hy
      have hnl : news = [] := List.length_eq_zero_iff.1 (by simpa using hs.newsLen)
      refine ⟨.slice a 0 c, w, ?_, ⟨a, c, rfl, Nat.zero_le _, hcm, .inl ⟨rfl, h0⟩⟩, Below.refl _ _, ⟨rfl, rfl, rfl, Nat.le_refl _, fun _ _ _ => rfl⟩, .inl rfl⟩
      have hcl : (Builtin.firstCells i.size 0 x).run P w = .ok #[] w := by
        have := hs.cells
        rw [hnl] at this
        exact this
      rcases hs.kind with ⟨e', hk⟩ | hk <;> cases a <;>
        simp [Builtin.append_, run_underlying hT.under, run_underlying hk, sizeOf, typeInfo, hi, hs.len, h0, hcl, storeCells, Result.andThen]
    · obtain ⟨cs, g1, g2⟩ := hf
      have hfit : o + xs.length * i.size + news.length ≤ cs.size := by
        rw [hs.newsLen]
        have : xs.length * i.size + ys.length * i.size ≤ c * i.size := by rw [← Nat.add_mul]; exact Nat.mul_le_mul_right _ hroom
        omega
      have hrun := run_append_room_src (P := P) w st tx ty t i hT.under hi b o xs.length c x ys.length news hs hroom
        (fun j hj => by rw [cell_of_heap g1, Array.getElem?_eq_getElem (by omega)]; rfl) (fun j hj => by rw [World.frozen?, g1]; simp)
      obtain ⟨cs', k1, k2, k3, k4⟩ := setCells_heap news w b (o + xs.length * i.size) cs t (0, 0) g1 (by omega)
      have hoth := setCells_other b news (o + xs.length * i.size) w
      have hsz := setCells_size b news (o + xs.length * i.size) w
      have hrest := setCells_rest b news (o + xs.length * i.size) w
      have hkeepR : ∀ vs x, R w (fun b' => n ≤ b' ∧ b' ≠ b) vs x → R (w.setCells b (o + xs.length * i.size) news) (fun b' => n ≤ b' ∧ b' ≠ b) vs x := fun vs x h =>
        hE.st.go _ _ _ _ _ _ h ⟨Nat.le_of_eq hsz.symm, fun b' hb' _ => hoth b' hb'.2⟩ (fun _ h _ => h)
      refine ⟨_, _, hrun, ⟨_, c, by rw [List.length_append], by rw [List.length_append]; exact hroom, hcm, .inr ⟨b, o, rfl, hb, by rw [hsz]; exact hzb, ⟨cs', k1, by omega⟩, fun q y hq => ?_⟩⟩, setCells_below hb, ⟨hrest.1, hrest.2.1, hrest.2.2, Nat.le_of_eq hsz.symm, fun d _ hd => hoth d (fun e => hd (by rw [e]; rfl))⟩, .inl rfl⟩
      by_cases hqx : q < xs.length
      · rw [List.getElem?_append_left hqx] at hq
        obtain ⟨vs, r1, r2, r3⟩ := he q y hq
        refine ⟨vs, r1, hkeepR _ _ r2, fun j u hu => ?_⟩
        have hj := (List.getElem?_eq_some_iff.1 hu).1
        have hle : q * i.size + i.size ≤ xs.length * i.size := by rw [← Nat.succ_mul]; exact Nat.mul_le_mul_right _ hqx
        rw [cell_of_heap k1, k3 _ (.inl (by omega)), ← cell_of_heap g1]
        exact r3 j u hu
      · rw [List.getElem?_append_right (by omega)] at hq
        obtain ⟨vs, r1, r2, r3⟩ := hnew _ y hq
        have hc0 : c ≠ 0 := fun e => by
          have := (List.getElem?_eq_some_iff.1 hq).1
          omega
        have hblk : rowBlk (.slice (some ⟨b, o, none⟩) xs.length c) = some b := by
          cases c with
          | zero => exact absurd rfl hc0
          | succ c => rfl
        have r2 := hE.st.go _ _ _ (fun b' => n ≤ b' ∧ b' ≠ b) _ _ r2 (Keeps.refl _ _) (fun b' h _ => ⟨h.1, fun e => h.2 (by rw [hblk, e])⟩)
        refine ⟨vs, r1, hkeepR _ _ r2, fun j u hu => ?_⟩
        have := k4 _ u (r3 j u hu)
        rw [cell_of_heap k1, show o + q * i.size + j = o + xs.length * i.size + ((q - xs.length) * i.size + j) by
          have : q * i.size = xs.length * i.size + (q - xs.length) * i.size := by rw [← Nat.add_mul]; congr 1; omega
          omega]
        exact this
  · -- it grows
    obtain ⟨olds, ho1, ho2⟩ : ∃ olds : List Value, (Builtin.firstCells i.size xs.length (.slice a xs.length c)).run P w.drew = .ok olds.toArray w.drew ∧ NewsR i.size R w (fun b => n ≤ b) olds xs ∧ olds.length = xs.length * i.size := by
      obtain ⟨news', q1, q2⟩ := SliceR.src (P := P) (st := st) hT hE.pos hE.ones (own := true) (w := w) (S := fun b => n ≤ b) (v := .slice a xs.length c) (xs := xs) (RowX.row hE.st ⟨a, c, rfl, hc, hcm, hx⟩)
      exact ⟨news', q1.cellsD, q2, q1.newsLen⟩
    have hrun := run_append_grow_src (P := P) w st tx ty t i z hT.under hi hz a xs.length c olds ho1 x ys.length news hs (by omega) (by omega) (growslice_fits (by omega) hbytes)
    have hge := grownCap_ge w (xs.length + ys.length) c t
    have hcm' := grownCap_le_maxLen w (xs.length + ys.length) c t (by unfold maxLen; omega)
    generalize hG : grownCap w (xs.length + ys.length) c t = G at *
    refine ⟨_, _, hrun, ⟨_, G, by rw [List.length_append], by rw [List.length_append]; exact hge, hcm', .inr ⟨w.heap.size, 0, rfl, hn, by simp, ⟨_, World.alloc_heap_new _ _, ?_⟩, fun q y hq => ?_⟩⟩, ((Below.refl _ _).drew).alloc hn _, ⟨rfl, rfl, rfl, by simp, fun d hd _ => Below.heap_alloc _ _ _ hd⟩, .inr rfl⟩
    · simp only [Array.size_append, List.size_toArray, List.length_append, size_zeroCells, hzs, ho2.2, hs.newsLen]
      have h9 : (xs.length + ys.length) * i.size + (G - (xs.length + ys.length)) * i.size = G * i.size := by rw [← Nat.add_mul]; congr 1; omega
      rw [Nat.add_mul] at h9
      omega
    · have hK : ∀ S : Nat → Prop, Keeps S w (w.drew.alloc (.cells ((olds ++ news).toArray ++ Builtin.zeroCells z.cells (G - (xs.length + ys.length))) t)) :=
        fun S => Keeps.all (((Below.refl _ _).drew).alloc (Nat.le_refl _) _)
      have hcell : ∀ j u, (olds ++ news)[j]? = some u → (w.drew.alloc (.cells ((olds ++ news).toArray ++ Builtin.zeroCells z.cells (G - (xs.length + ys.length))) t)).cell? ⟨w.heap.size, j, none⟩ = some u := by
        intro j u hu
        have hj := (List.getElem?_eq_some_iff.1 hu).1
        rw [cell_of_heap (w := w.drew.alloc _) (B := w.heap.size) (World.alloc_heap_new w.drew _), Array.getElem?_append_left (by simpa using hj)]
        simpa using hu
      by_cases hqx : q < xs.length
      · rw [List.getElem?_append_left hqx] at hq
        obtain ⟨vs, r1, r2, r3⟩ := ho2.1 q y hq
        refine ⟨vs, r1, hE.st.go _ _ _ _ _ _ r2 (hK _) (fun _ h hz => ⟨h, Nat.ne_of_lt hz⟩), fun j u hu => ?_⟩
        have h3 := r3 j u hu
        rw [Nat.zero_add]
        exact hcell _ u (by rw [List.getElem?_append_left (List.getElem?_eq_some_iff.1 h3).1]; exact h3)
      · rw [List.getElem?_append_right (by omega)] at hq
        obtain ⟨vs, r1, r2, r3⟩ := hnew _ y hq
        refine ⟨vs, r1, hE.st.go _ _ _ _ _ _ r2 (hK _) (fun _ h hz => ⟨h.1, Nat.ne_of_lt hz⟩), fun j u hu => ?_⟩
        have h3 := r3 j u hu
        rw [Nat.zero_add]
        refine hcell _ u ?_
        rw [show q * i.size + j = olds.length + ((q - xs.length) * i.size + j) by
          rw [ho2.2]
          have : q * i.size = xs.length * i.size + (q - xs.length) * i.size := by rw [← Nat.add_mul]; congr 1; omega
          omega, List.getElem?_append_right (by omega)]
        simpa using h3
theorem wpList_append_X {P : Program} (w : World) {ops : Array Oper} {rest : List Oper} {o : Oper} {a : Act} {Q : Exit → Act → World → Prop} (hgd : o.guard = none) (s x : Operand) (st tx : TypeId)
    (ho : o.op = .call { callee := .builtin .append, args := #[s, x], argTypes := #[st, tx] }) {t : TypeId} {k : Nat} (hT : RowT P st t k) {α : Type} {R : Rd α} (hE : EltX k R) (n : Nat) (v y : Value) {xs ys : List α} {news : List Value} (hs : a.eval s = v) (hx : a.eval x = y)
    (h1 : RowX t k R w n v xs) (hn : n ≤ w.heap.size) (hsrc : Src P k tx y ys.length news w) (hnew : NewsX k R w n v news ys) (hlen : xs.length + ys.length ≤ 100000000)
    (h : ∀ v' w', RowX t k R w' n v' (xs ++ ys) → Below n w w' → w.grownBy w' v.ownBlock → (v'.ownBlock = v.ownBlock ∨ v'.ownBlock = some w.heap.size) → wpList P ops Q rest (a.put o.dst v') w') :
    wpList P ops Q (o :: rest) a w := by
  refine wpList_plain hgd fun K hK => ?_
  obtain ⟨v', w', hr, h2, h3, h4, h5⟩ := append_X (P := P) (ty := o.type) hT hE h1 hn hsrc hnew hlen
  unfold Oper.wp execOp
  simp only [ho, resolve, invoke, builtin, Sem.run_bind, Sem.run_pure, Result.andThen_ok, List.map_toArray, List.map_cons, List.map_nil, hs, hx, hr]
  exact hK _ _ (h v' w' h2 h3 h4 h5)
theorem step_append_X {P : Program} {w : World} {ops : Array Oper} {o : Oper} {a : Act} {K : Act → World → Prop} {Q : Exit → Act → World → Prop} {E : Prop} (hgd : o.guard = none) (s x : Operand) (st tx : TypeId)
    (ho : o.op = .call { callee := .builtin .append, args := #[s, x], argTypes := #[st, tx] }) {t : TypeId} {k : Nat} (hT : RowT P st t k) {α : Type} {R : Rd α} (hE : EltX k R) (n : Nat) (v y : Value) {xs ys : List α} {news : List Value} (hs : a.eval s = v) (hx : a.eval x = y)
    (h1 : RowX t k R w n v xs) (hn : n ≤ w.heap.size) (hsrc : Src P k tx y ys.length news w) (hnew : NewsX k R w n v news ys) (hlen : xs.length + ys.length ≤ 100000000)
    (h : ∀ v' w', RowX t k R w' n v' (xs ++ ys) → Below n w w' → w.grownBy w' v.ownBlock → (v'.ownBlock = v.ownBlock ∨ v'.ownBlock = some w.heap.size) → K (a.put o.dst v') w') :
    if Region.wanted o (yielded ops a.tmps) = true then Oper.wp P o a w K Q else E := by
  have hw : Region.wanted o (yielded ops a.tmps) = true := by simp [Region.wanted, hgd]
  rw [if_pos hw]
  obtain ⟨v', w', hr, h2, h3, h4, h5⟩ := append_X (P := P) (ty := o.type) hT hE h1 hn hsrc hnew hlen
  unfold Oper.wp execOp
  simp only [ho, resolve, invoke, builtin, Sem.run_bind, Sem.run_pure, Result.andThen_ok, List.map_toArray, List.map_cons, List.map_nil, hs, hx, hr]
  exact h v' w' h2 h3 h4 h5
end Go.Proofs.Qw
namespace Go.Proofs.Qw
open Go.RowKit
def hrefA (h : List UInt8) : List Att := [⟨[104, 114, 101, 102], h⟩]
def massA (ats : List Att) : Nat := (ats.map fun a => 1 + a.name.length / 16 + a.value.length / 16).sum
namespace Nod
mutual
def mass : Nod → Nat | mk _ ats x ks => 1 + x.length / 16 + massA ats + masses ks
def masses : List Nod → Nat | [] => 0 | k :: ks => mass k + masses ks
end
mutual
def Sane : Nod → Prop | mk _ ats x ks => (x.length ≤ 281474976710656 ∧ ks.length ≤ 281474976710656 ∧ ats.length ≤ 281474976710656 ∧ ∀ a ∈ ats, a.name.length ≤ 281474976710656 ∧ a.value.length ≤ 281474976710656) ∧ Sanes ks
def Sanes : List Nod → Prop | [] => True | k :: ks => Sane k ∧ Sanes ks
end
theorem sanes_mem : ∀ {l : List Nod} {n : Nod}, Sanes l → n ∈ l → Sane n
  | _ :: _, _, ⟨h1, h2⟩, h => by
    rcases List.mem_cons.1 h with rfl | h
    · exact h1
    · exact sanes_mem h2 h
theorem sanes_of : ∀ {l : List Nod}, (∀ n ∈ l, Sane n) → Sanes l
  | [], _ => trivial
  | k :: ks, h => ⟨h k (by simp), sanes_of fun n hn => h n (by simp [hn])⟩
theorem mass_pos : ∀ n : Nod, 1 ≤ mass n
  | mk _ _ _ _ => by unfold mass; omega
theorem masses_len : ∀ l : List Nod, l.length ≤ masses l
  | [] => by simp [masses]
  | k :: ks => by have := mass_pos k; have := masses_len ks; simp [masses]; omega
theorem count_le : ∀ n : Nod, count n ≤ mass n := by
  intro n
  refine Nod.rec (motive_1 := fun n => count n ≤ mass n) (motive_2 := fun l => counts l ≤ masses l) ?_ ?_ ?_ n
  · intro t ats x ks ih
    unfold count mass
    omega
  · simp [counts, masses]
  · intro k ks h1 h2
    unfold counts masses
    omega
theorem deep_le : ∀ n : Nod, deep n + 1 ≤ mass n := by
  intro n
  refine Nod.rec (motive_1 := fun n => deep n + 1 ≤ mass n) (motive_2 := fun l => deeps l ≤ masses l) ?_ ?_ ?_ n
  · intro t ats x ks ih
    unfold deep mass
    omega
  · simp [deeps, masses]
  · intro k ks h1 h2
    unfold deeps masses
    omega
end Nod
theorem massA_len (ats : List Att) : ats.length ≤ massA ats := by
  induction ats with
  | nil => simp
  | cons a ats ih => unfold massA at *; simp; omega
theorem massA_mem {ats : List Att} {a : Att} (h : a ∈ ats) : 1 + a.name.length / 16 + a.value.length / 16 ≤ massA ats := by
  induction ats with
  | nil => cases h
  | cons b ats ih =>
    unfold massA at *
    rw [List.map_cons, List.sum_cons]
    rcases List.mem_cons.1 h with rfl | h
    · omega
    · have := ih h; omega
theorem light_node {t : Int} {ats : List Att} {x : List UInt8} {ks : List Nod} {B : Nat} (h : (Nod.mk t ats x ks).mass ≤ B) : x.length ≤ 16 * B + 15 ∧ ats.length ≤ B ∧ ks.length ≤ B ∧ Nod.masses ks ≤ B ∧ ∀ a ∈ ats, a.name.length ≤ 16 * B + 15 ∧ a.value.length ≤ 16 * B + 15 := by
  unfold Nod.mass at h
  have h1 := massA_len ats
  have h2 := Nod.masses_len ks
  refine ⟨by omega, by omega, by omega, by omega, fun a ha => ?_⟩
  have := massA_mem ha
  omega
def weighA : List Att → Int → Int
  | [], l => l
  | a :: ats, l => if 0 ≤ l then weighA ats (l - 1 - (a.name.length : Int) / 16 - (a.value.length : Int) / 16) else l
mutual
def weighN : Nod → Int → Int | .mk _ ats x ks, l => weighK ks (weighA ats (l - 1 - (x.length : Int) / 16))
def weighK : List Nod → Int → Int | [], l => l | k :: ks, l => if 0 ≤ l then weighK ks (weighN k l) else l
end
theorem weighA_neg {ats : List Att} {l : Int} (h : l < 0) : weighA ats l = l := by
  cases ats with
  | nil => rfl
  | cons a ats => rw [weighA, if_neg (by omega)]
theorem weighK_neg {ks : List Nod} {l : Int} (h : l < 0) : weighK ks l = l := by
  cases ks with
  | nil => rw [weighK]
  | cons a ats => rw [weighK, if_neg (by omega)]
theorem weighA_is : ∀ (ats : List Att) (l : Int), 0 ≤ weighA ats l → weighA ats l = l - massA ats
  | [], l, h => by simp [weighA, massA]
  | a :: ats, l, h => by
    rw [weighA] at h ⊢
    split at h
    · rename_i h0
      rw [if_pos h0]
      rw [weighA_is ats _ h]
      have e : massA (a :: ats) = 1 + a.name.length / 16 + a.value.length / 16 + massA ats := by simp [massA]
      rw [e]
      omega
    · omega
theorem weighA_le : ∀ (ats : List Att) (l : Int), weighA ats l ≤ l
  | [], l => by simp [weighA]
  | a :: ats, l => by
    rw [weighA]
    split
    · have := weighA_le ats (l - 1 - (a.name.length : Int) / 16 - (a.value.length : Int) / 16)
      omega
    · omega
theorem weighN_is : ∀ (n : Nod) (l : Int), 0 ≤ weighN n l → weighN n l = l - n.mass := by
  intro n
  refine Nod.rec (motive_1 := fun n => ∀ l : Int, 0 ≤ weighN n l → weighN n l = l - n.mass) (motive_2 := fun ks => ∀ l : Int, 0 ≤ weighK ks l → weighK ks l = l - Nod.masses ks) ?_ ?_ ?_ n
  · intro t ats x ks ih l h
    rw [weighN] at h ⊢
    have h1 := ih _ h
    rw [h1] at h ⊢
    have h2 := weighA_is ats (l - 1 - (x.length : Int) / 16) (by omega)
    rw [h2]
    unfold Nod.mass
    omega
  · intro l h
    simp [weighK, Nod.masses]
  · intro k ks h1 h2 l h
    rw [weighK] at h ⊢
    split at h
    · rename_i h0
      rw [if_pos h0]
      have h3 := h2 _ h
      rw [h3] at h ⊢
      have h4 := h1 l (by omega)
      rw [h4]
      have e : Nod.masses (k :: ks) = k.mass + Nod.masses ks := by rw [Nod.masses]
      omega
    · omega
theorem weighN_le : ∀ (n : Nod) (l : Int), weighN n l ≤ l - 1 := by
  intro n
  refine Nod.rec (motive_1 := fun n => ∀ l : Int, weighN n l ≤ l - 1) (motive_2 := fun ks => ∀ l : Int, weighK ks l ≤ l) ?_ ?_ ?_ n
  · intro t ats x ks ih l
    rw [weighN]
    have h1 := ih (weighA ats (l - 1 - (x.length : Int) / 16))
    have h2 := weighA_le ats (l - 1 - (x.length : Int) / 16)
    omega
  · intro l
    rw [weighK]
    omega
  · intro k ks h1 h2 l
    rw [weighK]
    split
    · have h3 := h1 l
      have h4 := h2 (weighN k l)
      omega
    · omega
theorem weighA_ge : ∀ (ats : List Att) (l : Int), (∀ a ∈ ats, a.name.length ≤ 281474976710656 ∧ a.value.length ≤ 281474976710656) → min l (-100000000000000) ≤ weighA ats l
  | [], l, _ => by rw [weighA]; omega
  | a :: ats, l, h => by
    rw [weighA]
    split
    · have := weighA_ge ats (l - 1 - (a.name.length : Int) / 16 - (a.value.length : Int) / 16) (fun b hb => h b (by simp [hb]))
      have := h a (by simp)
      omega
    · omega
theorem weighN_ge : ∀ (n : Nod) (l : Int), 0 ≤ l → n.Sane → -100000000000000 ≤ weighN n l := by
  intro n
  refine Nod.rec (motive_1 := fun n => ∀ l : Int, 0 ≤ l → n.Sane → -100000000000000 ≤ weighN n l) (motive_2 := fun ks => ∀ l : Int, Nod.Sanes ks → min l (-100000000000000) ≤ weighK ks l) ?_ ?_ ?_ n
  · intro t ats x ks ih l h0 hs
    rw [weighN]
    unfold Nod.Sane at hs
    have h1 := ih (weighA ats (l - 1 - (x.length : Int) / 16)) hs.2
    have h2 := weighA_ge ats (l - 1 - (x.length : Int) / 16) hs.1.2.2.2
    have h3 := hs.1.1
    omega
  · intro l _
    rw [weighK]
    omega
  · intro k ks h1 h2 l hs
    rw [weighK]
    unfold Nod.Sanes at hs
    split
    · rename_i h0
      have h3 := h1 l h0 hs.1
      have h4 := h2 (weighN k l) hs.2
      omega
    · omega
end Go.Proofs.Qw
namespace Go.Proofs.Qw
open Go.RowKit
mutual
def FitN : Nod → Prop | .mk _ ats _ ks => ats.length ≤ 1000000 ∧ ks.length ≤ 1000000 ∧ FitK ks
def FitK : List Nod → Prop | [] => True | k :: ks => FitN k ∧ FitK ks
end
theorem fit_mem : ∀ {l : List Nod} {n : Nod}, FitK l → n ∈ l → FitN n
  | k :: ks, n, h, hn => by
    rw [FitK] at h
    rcases List.mem_cons.1 hn with rfl | hn
    · exact h.1
    · exact fit_mem h.2 hn
theorem fit_parts {n : Nod} (h : FitN n) : n.attrs.length ≤ 1000000 ∧ n.kids.length ≤ 1000000 ∧ FitK n.kids := by
  obtain ⟨t, a, x, k⟩ := n
  rw [FitN] at h
  exact h
theorem fit_light (n : Nod) : n.mass ≤ 1000000 → FitN n := by
  refine Nod.rec (motive_1 := fun n => n.mass ≤ 1000000 → FitN n) (motive_2 := fun l => Nod.masses l ≤ 1000000 → FitK l) ?_ ?_ ?_ n
  · intro t ats x ks ih h
    obtain ⟨_, h1, h2, h3, _⟩ := light_node h
    rw [FitN]
    exact ⟨h1, h2, ih h3⟩
  · intro _
    rw [FitK]; trivial
  · intro k ks h1 h2 h
    have e : Nod.masses (k :: ks) = k.mass + Nod.masses ks := by rw [Nod.masses]
    rw [FitK]
    exact ⟨h1 (by omega), h2 (by omega)⟩
end Go.Proofs.Qw
namespace Go.Proofs.YtgeaijnelopkbaaDoor
open Go.RowKit
open Go.Proofs.Qw
theorem rowAtt : RowT Tryd.prog 22 48 2 := RowT.mk' (y := 32) Tryd.underlying22 (by kernel_rfl) (by decide) (z := .agg #[.string ⟨#[]⟩, .string ⟨#[]⟩]) (by rfl)
theorem rowNod : RowT Tryd.prog 23 25 4 := RowT.mk' (y := 72) Tryd.underlying23 (by kernel_rfl) (by decide) (z := .agg #[.int .i64 0, .slice none 0 0, .string ⟨#[]⟩, .slice none 0 0]) (by rfl)
theorem eltAtt : Elt 48 2 (rdOf encAtt) := elt_of _ (by decide) (fun _ => rfl) (fun x u hu => by simp [encAtt] at hu; rcases hu with rfl | rfl <;> rfl)
theorem eltNod (h : Nat) : EltX 4 (rdNod true h) :=
  ⟨by decide, fun _ _ _ _ hn => by
    match h, hn with
    | h + 1, ⟨_, _, e, _⟩ => rw [e]; rfl, fun _ _ _ _ hn u hu => by
    match h, hn with
    | h + 1, ⟨a, b, e, h2, h3⟩ =>
      obtain ⟨_, _, rfl⟩ := h2.slice
      obtain ⟨_, _, rfl⟩ := h3.slice
      subst e
      simp at hu
      rcases hu with rfl | rfl | rfl | rfl <;> rfl, rdNod_stable true h⟩
theorem srcAtt {own : Bool} {w : World} {S : Nat → Prop} {v : Value} {xs : List Att} (h : SliceR 48 2 (rdOf encAtt) own w S v xs) :
    ∃ news : List Value, Src Tryd.prog 2 22 v xs.length news w ∧ NewsR 2 (rdOf encAtt) w S news xs := SliceR.src rowAtt eltAtt.pos eltAtt.ones h
theorem flatAtt (w : World) (S : Nat → Prop) (xs : List Att) : NewsR 2 (rdOf encAtt) w S (xs.flatMap encAtt) xs := newsR_flat (enc := encAtt) (fun _ => rfl) w S xs
set_option maxRecDepth 100000 in
set_option maxHeartbeats 1000000 in
theorem cloneAtt_any (v : Value) (d : List Att) (own : Bool) (w w0 : World) (S : Nat → Prop) (h : SliceR 48 2 (rdOf encAtt) own w0 S v d) (h0 : Below w0.heap.size w0 w) (hs : d.length ≤ 1000000) :
    Calls Tryd.prog 40 #[v] w fun e w' => ∃ v', e = .returned v' ∧ SliceR 48 2 (rdOf encAtt) true w' (fun b => w.heap.size ≤ b) v' d ∧ Below w.heap.size w w' := by
  have hw : SliceR 48 2 (rdOf encAtt) own (w.alloc (.cells #[] 48)) S v d := SliceR.below (rdOf_stable _) h (below_from h0 ((Below.refl _ _).alloc (Nat.le_refl _) _))
  obtain ⟨news, H1, H2⟩ := srcAtt hw
  have HS := Lib.hid H1
  have HN := Lib.hid H2
  clear H1 H2
  obtain ⟨a, c, rfl, hc, hm, hx⟩ := hw
  cases a with
  | none =>
    have hd : d = [] := by
      rcases hx with hx | ⟨_, _, e, _⟩
      · exact hx.1
      · cases e
    have HD := Lib.hid hd
    have hq := Lib.run_eql_slice_nil (P := Tryd.prog) w 22 48 none d.length c 0 0 Tryd.underlying22
    clear hx h hd
    generalize d.length = n at *
    go_enter Tryd.func40, Tryd.ntmps40
    go_wp2_with fail
    go_ret
    rw [HD.out]
    exact ⟨_, rfl, SliceR.nil _ _ _ _ _ _, Below.refl _ _⟩
  | some a =>
    have hq := Lib.run_eql_slice_nil (P := Tryd.prog) w 22 48 (some a) d.length c 0 0 Tryd.underlying22
    clear hx h
    generalize hn : d.length = n at *
    have HL := Lib.hid hn
    clear hn
    go_enter Tryd.func40, Tryd.ntmps40
    go_wp2_with (at_builtin; refine wpList_append_R _ rfl _ _ 22 22 rfl rowAtt eltAtt w.heap.size _ _ (xs := []) (ys := d) (news := news) rfl rfl (SliceR.empty _ _ _ _ _ _ _) (by simp) (HL.out ▸ HS.out) HN.out (by have := HL.out; simp; omega) ?_; intro v' w1 hR hB _ _; have HR := Lib.hid hR; have HB := Lib.hid hB; clear hR hB)
    go_ret
    exact ⟨_, rfl, HR.out, ((Below.refl _ _).alloc (Nat.le_refl _) _).trans HB.out⟩
attribute [local go_sem ↓] Go.wp_at_zero Go.wp_at_succ
abbrev nodV (n : Nod) (a k : Value) : Value := .agg #[.int .i64 n.tag, a, .string ⟨n.text.toArray⟩, k]
theorem results_node {fn : Func} {p : Tmp} (h : fn.results = #[.cell p 25]) (tmps : Array Value) (w : World) (B : Nat) (x y z u : Value) (hp : tmps.getD p undef = .pointer (some ⟨B, 0, none⟩)) (hg : w.heap[B]? = some (.cells #[x, y, z, u] 25)) :
    (results fn tmps).run Tryd.prog w = .ok (.agg #[x, y, z, u]) w :=
  results_cell_row h tmps w B _ _ _ _ hp hg Tryd.underlying25 rfl (by kernel_rfl)
def OwnsAt (h : Nat) : Prop := ∀ (v : Value) (l : List Nod) (own : Bool) (w w0 : World) (S : Nat → Prop), NodsR own h w0 S v l → Below w0.heap.size w0 w → l.length ≤ 1000000 → FitK l →
    Calls Tryd.prog 41 #[v] w fun e w' => ∃ v', e = .returned v' ∧ NodsR true h w' (fun b => w.heap.size ≤ b) v' l ∧ Below w.heap.size w w'
theorem two_nodes (w : World) (x1 x2 x3 x4 y1 y2 y3 y4 : Value) : ∃ W1, (w.alloc (.cells #[x1, x2, x3, x4] 25)).alloc (.cells #[y1, y2, y3, y4] 25) = W1 ∧ Below w.heap.size w W1 ∧ w.heap.size + 2 = W1.heap.size ∧
    W1.heap[w.heap.size]? = some (.cells #[x1, x2, x3, x4] 25) ∧ W1.heap[w.heap.size + 1]? = some (.cells #[y1, y2, y3, y4] 25) :=
  ⟨_, rfl, ((Below.refl _ _).alloc (Nat.le_refl _) _).alloc (by simp) _, by simp, heap_old _ _ (heap_new _ _ rfl), heap_new _ _ (by simp)⟩
set_option maxRecDepth 100000 in
set_option maxHeartbeats 2000000 in
theorem nodOwn_of (h : Nat) (Hk : OwnsAt h) (n : Nod) (a k : Value) (o1 o2 : Bool) (w w0 : World) (S : Nat → Prop) (hA : AttsR o1 w0 S a n.attrs) (hK : NodsR o2 h w0 S k n.kids) (h0 : Below w0.heap.size w0 w) (hs : FitN n) :
    Calls Tryd.prog 17 #[nodV n a k] w fun e w' => ∃ a' k', e = .returned (nodV n a' k') ∧ AttsR true w' (fun b => w.heap.size ≤ b) a' n.attrs ∧ NodsR true h w' (fun b => w.heap.size ≤ b) k' n.kids ∧ Below w.heap.size w w' := by
  obtain ⟨f1, f2, f3⟩ := fit_parts hs
  have HC1 : Hid (∀ W, Below w0.heap.size w0 W → Calls Tryd.prog 40 #[a] W fun e w' => ∃ v', e = .returned v' ∧ AttsR true w' (fun b => W.heap.size ≤ b) v' n.attrs ∧ Below W.heap.size W w') := Lib.hid fun W hW => cloneAtt_any a n.attrs o1 W w0 S hA hW f1
  have HC2 : Hid (∀ W, Below w0.heap.size w0 W → Calls Tryd.prog 41 #[k] W fun e w' => ∃ v', e = .returned v' ∧ NodsR true h w' (fun b => W.heap.size ≤ b) v' n.kids ∧ Below W.heap.size W w') := Lib.hid fun W hW => Hk k n.kids o2 W w0 S hK hW f2 f3
  obtain ⟨la, lc, rfl⟩ := hA.slice
  obtain ⟨ca, cc, rfl⟩ := hK.slice
  clear hA hK f1 f2 f3 hs
  generalize n.attrs.length = n1 at *
  generalize n.kids.length = m at *
  unfold nodV
  obtain ⟨W1, hW1, hB, hz, hA0, hA1⟩ := two_nodes w (.int .i64 n.tag) (.slice la n1 lc) (.string ⟨n.text.toArray⟩) (.slice ca m cc) (.int .i64 0) (.slice none 0 0) (.string ⟨#[]⟩) (.slice none 0 0)
  have hW := below_from h0 hB
  have z0 : w.heap.size < W1.heap.size := by omega
  have z1 : w.heap.size + 1 < W1.heap.size := by omega
  have HZ := Lib.hid hz
  clear hz
  obtain ⟨p0, g0⟩ := blk hA0
  obtain ⟨p1, g1⟩ := blk hA1
  go_enter Tryd.func17, Tryd.ntmps17
  go_wp2_with fail
  go_region_with
    (first | (go_at_call 40; refine (HC1.out _ (by first | exact hW | exact hW.drew)).mono ?_; rintro e w2 ⟨v1, rfl, hv1, hb1⟩; obtain ⟨a1, c1, rfl⟩ := hv1.slice; have hA3 := heap_below hb1 hA1; have hA2 := heap_below hb1 hA0; obtain ⟨p2, g2⟩ := blk hA2; obtain ⟨p3, g3⟩ := blk hA3; have hx1 := below_from (by first | exact hW | exact hW.drew) hb1) | (go_at_call 41; refine (HC2.out _ hx1).mono ?_; rintro e w3 ⟨v2, rfl, hv2, hb2⟩; obtain ⟨a2, c2, rfl⟩ := hv2.slice; have hA4 := heap_below hb2 hA2; have hA5 := heap_below hb2 hA3; obtain ⟨p4, g4⟩ := blk hA4; obtain ⟨p5, g5⟩ := blk hA5))
  all_goals
    go_wp2_with fail
  all_goals
    refine bodyPost_ret (results_node rfl _ _ (w.heap.size + 1) (.int .i64 n.tag) (.slice a1 n.attrs.length c1) (.string ⟨n.text.toArray⟩) (.slice a2 n.kids.length c2) rfl (by simp [heap_set, putIn, hA5])) rfl ?_
    have s1 := hb1.size
    have s2 := hb2.size
    have s0 := hB.size
    simp at s1
    refine ⟨_, _, rfl, hv1.stable (rdOf_stable _) ((((((((Keeps.refl _ _).on hb2).set (by simp; omega) _).set (by simp; omega) _).set (by simp; omega) _).set (by simp; omega) _).set (by simp; omega) _).set (by simp; omega) _) (fun b h _ => ?_), hv2.stable (rdNod_stable _ _) (((((((Keeps.refl _ _).set (by simp; omega) _).set (by simp; omega) _).set (by simp; omega) _).set (by simp; omega) _).set (by simp; omega) _).set (by simp; omega) _) (fun b h _ => ?_), ?_⟩
    · (try simp at h); omega
    · (try simp at h); omega
    · have hb1' : Below W1.heap.size W1 w2 := (Below.refl _ _).drew.trans hb1
      have hbb := (hB.trans (hb1'.mono s0)).trans (hb2.mono (by omega))
      exact (((((hbb.setCell (by simp) _).setCell (by simp) _).setCell (by simp) _).setCell (by simp) _).setCell (by simp) _).setCell (by simp) _
theorem oneV_node (n : Nod) (a1 a2 : Option Addr) (n1 c1 n2 c2 : Nat) : ∀ u ∈ [Value.int .i64 n.tag, .slice a1 n1 c1, .string ⟨n.text.toArray⟩, .slice a2 n2 c2], u.oneCell' = true := by
  intro u hu
  simp at hu
  rcases hu with rfl | rfl | rfl | rfl <;> rfl
set_option maxRecDepth 100000 in
set_option maxHeartbeats 2000000 in
theorem owns_step (h : Nat) (ih : ∀ h', h = h' + 1 → OwnsAt h') : OwnsAt h := by
  intro v d own w w0 S hv h0 hn hfit
  obtain ⟨a, c, rfl, hc, hm, hx⟩ := nods_shape (hv.read fun _ _ h => rdNod_read h)
  have HX := Lib.hid hx
  have HF := Lib.hid hfit
  have HI := Lib.hid ih
  clear hx hv hfit ih
  unfold maxLen at hm
  go_enter Tryd.func41, Tryd.ntmps41
  go_wp2_with fail
  go_loopw [3, 8] (fun out i wr => ∃ k : Nat, k ≤ d.length ∧ i = .int .i64 k ∧ RowX 25 4 (rdNod true h) wr w.heap.size out (d.take k) ∧ Below w.heap.size w wr) (fun _ i _ => d.length - (intOf i).toNat)
  case atStart => exact ⟨0, Nat.zero_le _, rfl, RowX.nil _ _ _ _ _, Below.refl _ _⟩
  case round =>
    obtain ⟨k, hk, rfl, hO, hb⟩ := hrel
    by_cases hlt : k < d.length
    · obtain ⟨n, hl, hd⟩ := getOf d k hlt
      obtain ⟨b, o, aa, ac, ka, kc, h', rfl, rfl, hA⟩ := HX.out k n hl
      have hfl := fit_mem HF.out (List.mem_of_getElem? hl)
      have HT := Lib.hid (take_some hl)
      have HH := Lib.hid (And.intro hA.attrsR hA.kidsR)
      obtain ⟨_, c0, c1, c2, c3, _, _⟩ := hA.below (below_from h0 hb)
      have HW : Hid (∀ W, Below w0.heap.size w0 W → Calls Tryd.prog 17 #[nodV n (.slice aa n.attrs.length ac) (.slice ka n.kids.length kc)] W fun e w' => ∃ a' k', e = .returned (nodV n a' k') ∧ AttsR true w' (fun b => W.heap.size ≤ b) a' n.attrs ∧ NodsR true h' w' (fun b => W.heap.size ≤ b) k' n.kids ∧ Below W.heap.size W w') :=
        Lib.hid fun W hW => nodOwn_of h' (HI.out h' rfl) n _ _ false false W w0 S HH.out.1 HH.out.2 hW hfl
      have HO := Lib.hid hO
      have hbw := below_from h0 hb
      have hbs := hb.size
      have htl : (d.take k).length + 1 ≤ 100000000 := by rw [List.length_take]; omega
      clear hA hd hl hO hfl HH
      go_wp2_with (first
        | (go_at_call 17; refine (HW.out _ (hbw.alloc (by have := hbw.size; simp; omega) _)).mono ?_; rintro e w2 ⟨a', b', rfl, ha', hb', hb2⟩; obtain ⟨a1, c1, rfl⟩ := ha'.slice; obtain ⟨a2, c2, rfl⟩ := hb'.slice; have HA1 := Lib.hid ha'; have HA2 := Lib.hid hb'; have HB2 := Lib.hid hb2; clear ha' hb'; have hz2 := hb2.size; simp at hz2; clear hb2; unfold nodV)
        | (at_builtin; go_must (refine wpList_append_X _ rfl _ _ 23 23 rfl rowNod (eltNod (h' + 1)) w.heap.size _ _ (xs := d.take k) (ys := [n]) (news := [.int .i64 n.tag, .slice a1 n.attrs.length c1, .string ⟨n.text.toArray⟩, .slice a2 n.kids.length c2]) rfl rfl (HO.out.below (rdNod_stable _ _) ((((Keeps.refl _ _).alloc _).on HB2.out).alloc _)) (by simp; omega) (src_one rowNod w2 _ rfl (oneV_node _ _ _ _ _ _ _) 1) (news_apart (rdNod_stable _ _) HO.out hbs (NewsR.one rfl ⟨_, _, rfl, HA1.out.stable (rdOf_stable _) ((Keeps.refl _ _).alloc _) (fun b h _ => Nat.le_trans (by simp) h), HA2.out.stable (rdNod_stable _ _) ((Keeps.refl _ _).alloc _) (fun b h _ => Nat.le_trans (by simp) h)⟩)) htl ?_); intro v' w3 hR hB _ _; rw [← HT.out] at hR; have HR := Lib.hid hR; have HB3 := Lib.hid hB; clear hR hB))
      go_roundw
      case rel => exact ⟨k + 1, hlt, by go_num, HR.out, hb.trans ((((Below.refl _ _).alloc hbs _).trans (HB2.out.mono (by simp; omega))).alloc (by omega) _ |>.trans HB3.out)⟩
      case measure => simp [intOf]; omega
    · obtain rfl : k = d.length := by omega
      have HT := Lib.hid (List.take_length (l := d))
      have HO := Lib.hid (hO.row (rdNod_stable _ _))
      have HB := Lib.hid hb
      clear hb hO
      go_wp2_with fail
      go_ret
      exact ⟨_, rfl, Eq.mp (congrArg (fun x => NodsR true h wr (fun b => w.heap.size ≤ b) _ x) HT.out) HO.out, HB.out⟩
theorem owns_any : ∀ h, OwnsAt h
  | 0 => owns_step 0 (fun _ e => by cases e)
  | h + 1 => owns_step (h + 1) (fun h' e => by cases e; exact owns_any h)
theorem nodOwn_any (h : Nat) (n : Nod) (a k : Value) (o1 o2 : Bool) (w w0 : World) (S : Nat → Prop) (hA : AttsR o1 w0 S a n.attrs) (hK : NodsR o2 h w0 S k n.kids) (h0 : Below w0.heap.size w0 w) (hs : FitN n) :
    Calls Tryd.prog 17 #[nodV n a k] w fun e w' => ∃ a' k', e = .returned (nodV n a' k') ∧ AttsR true w' (fun b => w.heap.size ≤ b) a' n.attrs ∧ NodsR true h w' (fun b => w.heap.size ≤ b) k' n.kids ∧ Below w.heap.size w w' := nodOwn_of h (owns_any h) n a k o1 o2 w w0 S hA hK h0 hs
end Go.Proofs.YtgeaijnelopkbaaDoor
namespace Go.Proofs.Qw
open Go.RowKit Go.Proofs.YtgeaijnelopkbaaDoor Go.Deep
section
variable {H : Type} {enc : TypeId × Value → H} {P : Program} {w : World} {base : Nat} {held : Bool}
theorem open_row_lt {α : Type} [Inhabited α] {t e t0 : TypeId} {k fuel : Nat} {R : Rd α} {cs : List Value} {x : DataW H × List MemPlace} (Q : DataW H → α → Prop) (ht : P.underlying t = some (.slice e)) (hk : P.cellsOf e = k) (hk0 : 0 < k)
    (h : DataW.trod enc P w base (fun _ => true) held fuel t cs = some x)
    (hR : ∀ n, n < fuel → ∀ cs y, DataW.trod enc P w base (fun _ => true) held n e cs = some y → ∃ x, R w (fun _ => True) cs x ∧ Q y.1 x) :
    ∃ (v : Value) (xs : List α), cs = [v] ∧ SliceR t0 k R false w (fun _ => True) v xs ∧ ((x.1 = .nil ∧ xs = []) ∨ ∃ (elems spare : List (DataW H)), x.1 = .slice elems spare ∧ elems.length = xs.length ∧ ∀ (i : Nat) (a : α), xs[i]? = some a → ∃ d, elems[i]? = some d ∧ Q d a) := by
  rcases DataW.trod_slice ht h with ⟨rfl, rfl⟩ | ⟨a, len, cap, elems, rest, n, hn, rfl, rfl, hb, hl, hm, hlen, hx, _, _⟩
  · exact ⟨_, [], rfl, SliceR.nil _ _ _ _ _ _, .inl ⟨rfl, rfl⟩⟩
  have hx2 : ∀ i, i < len → ∃ y : α, ∃ cs', (w.cells? base (a.add (i * P.cellsOf e)) (P.cellsOf e) = some cs' ∧ R w (fun _ => True) cs' y) ∧ ∃ d, (elems.map (·.1))[i]? = some d ∧ Q d y := fun i hi => by
    have h1 := hx i hi
    have hi' : i < elems.length := by omega
    rw [List.getElem?_eq_getElem hi', Option.bind_eq_some_iff] at h1
    obtain ⟨cs', h2, h3⟩ := h1
    obtain ⟨y, g1, g2⟩ := hR n (by omega) _ _ h3
    exact ⟨y, cs', ⟨h2, g1⟩, _, by rw [List.getElem?_map, List.getElem?_eq_getElem hi']; rfl, g2⟩
  obtain ⟨Y, hY⟩ := choose_lt hx2
  refine ⟨_, (List.range len).map Y, rfl, ?_, .inr ⟨_, _, rfl, by simp [hlen], fun i y hi => ?_⟩⟩
  · by_cases h0 : len = 0
    · subst h0
      exact ⟨some a, cap, rfl, by simp, hm, .inl ⟨rfl, fun h => by cases h⟩⟩
    obtain ⟨c0, ⟨g1, _⟩, _⟩ := hY 0 (by omega)
    have gs := World.cells?_some g1
    obtain ⟨b, off, spot⟩ := a
    have hc0 : c0.length = k := by rw [gs.2.1, hk]
    have g3 := gs.2.2 0 (by omega)
    have hspot : spot = none := by
      rw [List.getElem?_eq_getElem (by omega)] at g3
      simpa [Addr.add] using World.cell?_spot g3
    subst hspot
    have hlt : b < w.heap.size := by
      have := World.cells?_block g1 (by omega)
      simpa [Addr.add] using this
    refine ⟨_, cap, by simp, by simp; omega, hm, .inr ⟨b, off, rfl, trivial, hlt, (fun h => by cases h), fun i y hi => ?_⟩⟩
    have hil : i < len := by have := (List.getElem?_eq_some_iff.1 hi).1; simpa using this
    have hy : y = Y i := by simp [hil] at hi; exact hi.symm
    subst hy
    obtain ⟨cs', ⟨q1, q2⟩, _⟩ := hY i hil
    have qs := World.cells?_some q1
    refine ⟨cs', by rw [qs.2.1, hk], q2, fun j u hu => ?_⟩
    have hj := (List.getElem?_eq_some_iff.1 hu).1
    have := qs.2.2 j (by rw [← qs.2.1]; exact hj)
    rw [hu, hk, WideShapes.add_plain, WideShapes.add_plain] at this
    rwa [Nat.add_assoc] at this ⊢
  · have hil : i < len := by have := (List.getElem?_eq_some_iff.1 hi).1; simpa using this
    have hy : y = Y i := by simp [hil] at hi; exact hi.symm
    subst hy
    obtain ⟨cs', _, q⟩ := hY i hil
    exact q
end
section
variable {H : Type} {enc : TypeId × Value → H} {w : World} {base : Nat} {held : Bool} {sp : Nat → Bool}
def AttD (d : DataW H) (a : Att) : Prop := d = .agg [.lit (.string a.name), .lit (.string a.value)]
set_option maxRecDepth 100000 in
theorem open_att {n : Nat} {cs : List Value} {y : DataW H × List MemPlace} (h : DataW.trod enc Tryd.prog w base sp held n 48 cs = some y) : ∃ c : Att, rdOf encAtt w (fun _ => True) cs c ∧ AttD y.1 c := by
  obtain ⟨xs, m, _, rfl, hl, hxs, hf⟩ := DataW.trod_struct Tryd.underlying48 h
  have h0 := hf 0 _ rfl
  have h1 := hf 1 _ rfl
  rw [show Tryd.prog.cellsOf 48 = 2 by kernel_rfl] at hl
  match cs, hl with
  | [a, b], _ =>
    match xs, hxs with
    | [x0, x1], _ =>
      obtain ⟨s, e0, rfl, _⟩ := DataW.trod_string Tryd.underlying9 h0
      obtain ⟨u, e1, rfl, _⟩ := DataW.trod_string Tryd.underlying9 h1
      have e0 : [a] = [Value.string s] := e0
      have e1 : [b] = [Value.string u] := e1
      cases e0
      cases e1
      exact ⟨⟨s.data.toList, u.data.toList⟩, by show _ = encAtt _; unfold encAtt; rw [str_back, str_back], rfl⟩
def NodD (d : DataW H) (n : Nod) : Prop := (∀ k ∈ d.weights Tryd.prog 25, k ≤ reachBytes) → n.Sane
set_option maxRecDepth 100000 in
theorem open_nodF (fuel : Nat) : ∀ (cs : List Value) (y : DataW H × List MemPlace), DataW.trod enc Tryd.prog w base (fun _ => true) held fuel 25 cs = some y → ∃ x : Nod, rdNod false fuel w (fun _ => True) cs x ∧ NodD y.1 x := by
  induction fuel using Nat.strongRecOn with
  | _ fuel ih =>
    intro cs y h
    obtain ⟨xs, m, hm, rfl, hl, hxs, hf⟩ := DataW.trod_struct Tryd.underlying25 h
    subst hm
    have h0 := hf 0 _ rfl
    have h1 := hf 1 _ rfl
    have h2 := hf 2 _ rfl
    have h3 := hf 3 _ rfl
    rw [show Tryd.prog.cellsOf 25 = 4 by kernel_rfl] at hl
    match cs, hl with
    | [a, b, c, d], _ =>
      match xs, hxs with
      | [x0, x1, x2, x3], _ =>
        obtain ⟨q, e0, rfl, _⟩ := DataW.trod_int Tryd.underlying3 h0
        obtain ⟨s, e2, rfl, _⟩ := DataW.trod_string Tryd.underlying9 h2
        obtain ⟨av, al, e1, hal, haw⟩ := open_row (t0 := 48) (k := 2) (R := rdOf encAtt) AttD Tryd.underlying22 (by kernel_rfl) (by decide) h1 (fun n cs y h => open_att h)
        obtain ⟨kv, kl, e3, hkl, hkw⟩ := open_row_lt (t0 := 25) (k := 4) (R := rdNod false m) NodD Tryd.underlying23 (by kernel_rfl) (by decide) h3 (fun n hn cs y h => by
          obtain ⟨x, g1, g2⟩ := ih n (by omega) cs y h
          exact ⟨x, rdNod_mono (by omega) g1, g2⟩)
        have e0 : [a] = [Value.int .i64 q] := e0
        have e1 : [b] = [av] := e1
        have e2 : [c] = [Value.string s] := e2
        have e3 : [d] = [kv] := e3
        cases e0
        cases e1
        cases e2
        cases e3
        refine ⟨.mk q al s.data.toList kl, ⟨_, _, by simp only [Nod.tag, Nod.text], hal, hkl⟩, fun hw => ?_⟩
        have hw1 : ∀ n ∈ x1.1.weights Tryd.prog 22, n ≤ reachBytes := fun n hn => hw n (by
          simp only [List.map_cons, List.map_nil, DataW.weights, Tryd.underlying25, DataW.weightsEach, List.mem_append]
          simp [hn])
        have hw2 : s.data.toList.length ≤ reachBytes := hw _ (by
          simp only [List.map_cons, List.map_nil, DataW.weights, Tryd.underlying25, DataW.weightsEach, List.mem_append]
          simp)
        have hw3 : ∀ n ∈ x3.1.weights Tryd.prog 23, n ≤ reachBytes := fun n hn => hw n (by
          simp only [List.map_cons, List.map_nil, DataW.weights, Tryd.underlying25, DataW.weightsEach, List.mem_append]
          simp [hn])
        clear hw
        rw [Nod.Sane]
        unfold reachBytes at hw2
        refine ⟨⟨by omega, ?_, ?_, ?_⟩, Nod.sanes_of fun n hn => ?_⟩
        · rcases hkw with ⟨_, rfl⟩ | ⟨el, spr, hd, hl, _⟩
          · simp
          · rw [hd] at hw3
            have := hw3 ((el.length + spr.length) * Tryd.prog.bytesOf 25) (by rw [DataW.weights, Tryd.underlying23]; exact List.mem_cons_self)
            rw [show Tryd.prog.bytesOf 25 = 72 by kernel_rfl] at this
            unfold reachBytes at this
            omega
        · rcases haw with ⟨_, rfl⟩ | ⟨el, spr, hd, hl, _⟩
          · simp
          · rw [hd] at hw1
            have := hw1 ((el.length + spr.length) * Tryd.prog.bytesOf 48) (by rw [DataW.weights, Tryd.underlying22]; exact List.mem_cons_self)
            rw [show Tryd.prog.bytesOf 48 = 32 by kernel_rfl] at this
            unfold reachBytes at this
            omega
        · intro c hc
          rcases haw with ⟨_, rfl⟩ | ⟨el, spr, hd, hl, hel⟩
          · cases hc
          · rw [hd] at hw1
            obtain ⟨i, hi⟩ := List.getElem?_of_mem hc
            obtain ⟨dd, g1, g2⟩ := hel i c hi
            have key : ∀ n ∈ dd.weights Tryd.prog 48, n ≤ reachBytes := fun n hn => hw1 n (by
              rw [DataW.weights, Tryd.underlying22]
              exact List.mem_cons_of_mem _ (List.mem_append_left _ (weightsAll_mem hn (List.mem_of_getElem? g1))))
            rw [show dd = _ from g2] at key
            have k1 := key c.name.length (by simp [DataW.weights, Tryd.underlying48, DataW.weightsEach])
            have k2 := key c.value.length (by simp [DataW.weights, Tryd.underlying48, DataW.weightsEach])
            unfold reachBytes at k1 k2
            omega
        · rcases hkw with ⟨_, rfl⟩ | ⟨el, spr, hd, _, hel⟩
          · cases hn
          · rw [hd] at hw3
            obtain ⟨i, hi⟩ := List.getElem?_of_mem hn
            obtain ⟨dd, g1, g2⟩ := hel i n hi
            exact g2 fun k hk => hw3 k (by
              rw [DataW.weights, Tryd.underlying23]
              exact List.mem_cons_of_mem _ (List.mem_append_left _ (weightsAll_mem hk (List.mem_of_getElem? g1))))
set_option maxRecDepth 100000 in
theorem open_nod {v : Value} {d : DataW H} {ps : List MemPlace} (hv : ∃ cs, v = .agg cs ∧ cs.size = Tryd.prog.cellsOf 25) (h : DataW.Trod enc Tryd.prog w base (fun _ => true) held 25 v d ps) (hw : ∀ n ∈ d.weights Tryd.prog 25, n ≤ reachBytes) :
    ∃ (n : Nod) (ht : Nat) (a k : Value), v = nodV n a k ∧ AttsR false w (fun _ => True) a n.attrs ∧ NodsR false ht w (fun _ => True) k n.kids ∧ n.Sane := by
  obtain ⟨cs, rfl, hsz⟩ := hv
  obtain ⟨fuel, hf⟩ := h
  obtain ⟨n, h1, h2⟩ := open_nodF fuel _ _ hf
  match fuel, h1 with
  | ht + 1, ⟨a, k, e, ha, hk⟩ =>
    refine ⟨n, ht, a, k, ?_, ha, hk, h2 hw⟩
    have e : cs.toList = _ := e
    unfold nodV
    congr 1
    exact Array.ext' (by rw [e])
set_option maxRecDepth 100000 in
theorem open_nods {v : Value} {d : DataW H} {ps : List MemPlace} (hv : ∃ a n c, v = .slice a n c) (h : DataW.Trod enc Tryd.prog w base (fun _ => true) held 23 v d ps) (hw : ∀ n ∈ d.weights Tryd.prog 23, n ≤ reachBytes) :
    ∃ (l : List Nod) (ht : Nat), NodsR false ht w (fun _ => True) v l ∧ Nod.Sanes l ∧ l.length ≤ 281474976710656 := by
  obtain ⟨fuel, hf⟩ := h
  obtain ⟨v', xs, e, hs, hx⟩ := open_row_lt (t0 := 25) (k := 4) (R := rdNod false fuel) NodD Tryd.underlying23 (by kernel_rfl) (by decide) hf (fun n hn cs y h => by
    obtain ⟨x, g1, g2⟩ := open_nodF n cs y h
    exact ⟨x, rdNod_mono (by omega) g1, g2⟩)
  have hvv : v = v' := by
    obtain ⟨a, n, c, rfl⟩ := hv
    have e : [Value.slice a n c] = [v'] := e
    cases e
    rfl
  refine ⟨xs, fuel, hvv ▸ hs, Nod.sanes_of fun n hn => ?_, ?_⟩
  · rcases hx with ⟨_, rfl⟩ | ⟨el, spr, hd, _, hel⟩
    · cases hn
    · obtain ⟨i, hi⟩ := List.getElem?_of_mem hn
      obtain ⟨dd, g1, g2⟩ := hel i n hi
      have hd : d = .slice el spr := hd
      subst hd
      exact g2 fun k hk => hw k (by
        rw [DataW.weights, Tryd.underlying23]
        exact List.mem_cons_of_mem _ (List.mem_append_left _ (weightsAll_mem hk (List.mem_of_getElem? g1))))
  · rcases hx with ⟨_, rfl⟩ | ⟨el, spr, hd, hl, _⟩
    · simp
    · have hd : d = .slice el spr := hd
      rw [hd] at hw
      have := hw ((el.length + spr.length) * Tryd.prog.bytesOf 25) (by rw [DataW.weights, Tryd.underlying23]; exact List.mem_cons_self)
      rw [show Tryd.prog.bytesOf 25 = 72 by kernel_rfl] at this
      unfold reachBytes at this
      omega
end
end Go.Proofs.Qw
namespace Go.Proofs.Qw
open Go.RowKit
theorem deeps_snoc (l : List Nod) (x : Nod) : Nod.deeps (l ++ [x]) = max (Nod.deeps l) (x.deep + 1) := by
  induction l with
  | nil => simp [Nod.deeps]
  | cons y l ih => simp only [List.cons_append, Nod.deeps, ih]; omega
theorem deeps_mem : ∀ {l : List Nod} {n : Nod}, n ∈ l → n.deep + 1 ≤ Nod.deeps l
  | k :: ks, n, h => by
    have e : Nod.deeps (k :: ks) = max (k.deep + 1) (Nod.deeps ks) := by rw [Nod.deeps]
    rcases List.mem_cons.1 h with rfl | h
    · omega
    · have := deeps_mem h; omega
theorem counts_mem : ∀ {l : List Nod} {n : Nod}, n ∈ l → n.count ≤ Nod.counts l
  | k :: ks, n, h => by
    have e : Nod.counts (k :: ks) = k.count + Nod.counts ks := by rw [Nod.counts]
    rcases List.mem_cons.1 h with rfl | h
    · omega
    · have := counts_mem h; omega
theorem deep_kids (n : Nod) : n.deep = Nod.deeps n.kids := by cases n; rw [Nod.deep]; rfl
theorem count_kids (n : Nod) : n.count = 1 + Nod.counts n.kids := by cases n; rw [Nod.count]; rfl
theorem counts_take {l : List Nod} {k : Nat} {x : Nod} (h : l[k]? = some x) : Nod.counts (l.take (k + 1)) = Nod.counts (l.take k) + x.count := by
  rw [take_some h, Nod.counts_append]
  simp [Nod.counts]
theorem deeps_take {l : List Nod} {k : Nat} {x : Nod} (h : l[k]? = some x) : Nod.deeps (l.take (k + 1)) = max (Nod.deeps (l.take k)) (x.deep + 1) := by
  rw [take_some h, deeps_snoc]
theorem counts_le (l : List Nod) (k : Nat) : Nod.counts (l.take k) ≤ Nod.counts l := by
  conv => rhs; rw [← List.take_append_drop k l]
  rw [Nod.counts_append]
  omega
theorem deeps_le (l : List Nod) (k : Nat) : Nod.deeps (l.take k) ≤ Nod.deeps l := by
  induction l generalizing k with
  | nil => simp
  | cons y l ih =>
    cases k with
    | zero => simp [Nod.deeps]
    | succ k => rw [List.take_succ_cons]; have := ih k; simp only [Nod.deeps]; omega
end Go.Proofs.Qw
namespace Go.Proofs.YtgeaijnelopkbaaDoor
open Go.RowKit
open Go.Proofs.Qw
attribute [local go_sem ↓] Go.wp_at_zero Go.wp_at_succ
theorem one_node (w : World) (x1 x2 x3 x4 : Value) : ∃ W1, w.alloc (.cells #[x1, x2, x3, x4] 25) = W1 ∧ Below w.heap.size w W1 ∧ w.heap.size + 1 = W1.heap.size ∧ W1.heap[w.heap.size]? = some (.cells #[x1, x2, x3, x4] 25) :=
  ⟨_, rfl, (Below.refl _ _).alloc (Nat.le_refl _) _, by simp, heap_new _ _ rfl⟩
def DeepAt (h : Nat) : Prop := ∀ (n : Nod) (a k : Value) (w : World) (S : Nat → Prop), AttsR false w S a n.attrs → NodsR false h w S k n.kids → n.deep ≤ 1000000000 →
    Calls Tryd.prog 22 #[nodV n a k] w fun e w' => e = .returned (.int .i64 n.deep) ∧ Below w.heap.size w w'
set_option maxRecDepth 100000 in
set_option maxHeartbeats 2000000 in
theorem deep_step (h : Nat) (ih : ∀ h', h = h' + 1 → DeepAt h') : DeepAt h := by
  intro n a kv w S hA hK hn
  obtain ⟨la, lc, rfl⟩ := hA.slice
  obtain ⟨ka, kc, rfl, hc, hm, hx⟩ := nods_shape hK
  have HX := Lib.hid hx
  have HI := Lib.hid ih
  have HD := Lib.hid (deep_kids n)
  have HN : Hid (Nod.deeps n.kids ≤ 1000000000) := Lib.hid (by rw [← deep_kids]; exact hn)
  clear hA hK hx ih hn
  unfold maxLen at hm
  obtain ⟨W1, hW1, hB, hz, hB1⟩ := one_node w (.int .i64 n.tag) (.slice la n.attrs.length lc) (.string ⟨n.text.toArray⟩) (.slice ka n.kids.length kc)
  have HZ := Lib.hid hz
  clear hz
  obtain ⟨p1, f1⟩ := blk hB1
  go_enter Tryd.func22, Tryd.ntmps22
  go_wp2_with fail
  go_loopw [3, 9] (fun m i wr => ∃ k : Nat, k ≤ n.kids.length ∧ i = .int .i64 k ∧ m = .int .i64 (Nod.deeps (n.kids.take k)) ∧ Below W1.heap.size W1 wr) (fun _ i _ => n.kids.length - (intOf i).toNat)
  case atStart => exact ⟨0, Nat.zero_le _, rfl, by simp [Nod.deeps], Below.refl _ _⟩
  case round =>
    obtain ⟨k, hk, rfl, rfl, hb⟩ := hrel
    by_cases hlt : k < n.kids.length
    · obtain ⟨x, hl, hd⟩ := getOf n.kids k hlt
      obtain ⟨b, o, xa, xc, ya, yc, h', rfl, rfl, hA⟩ := HX.out k x hl
      have hs1 := hB.size
      have hbw : Below w.heap.size w wr := hB.trans (hb.mono hs1)
      have HT := Lib.hid (deeps_take hl)
      have HM := Lib.hid (deeps_mem (List.mem_of_getElem? hl))
      have HL := Lib.hid (deeps_le n.kids k)
      have HW : Hid (∀ W, Below w.heap.size w W → Calls Tryd.prog 22 #[nodV x (.slice xa x.attrs.length xc) (.slice ya x.kids.length yc)] W fun e w' => e = .returned (.int .i64 x.deep) ∧ Below W.heap.size W w') :=
        Lib.hid fun W hW => HI.out h' rfl x _ _ W S (hA.below hW).attrsR (hA.below hW).kidsR (by have := HM.out; have := HN.out; omega)
      obtain ⟨_, c0, c1, c2, c3, _, _⟩ := hA.below hbw
      have hbs := hb.size
      have z0 := HZ.out
      have m1 := HM.out
      have m2 := HN.out
      have m3 := HL.out
      clear hA hd hl
      go_wp2_with (go_at_call 22; refine (HW.out _ (by go_grown)).mono ?_; rintro e w2 ⟨rfl, hb2⟩)
      go_roundw
      case rel => exact ⟨k + 1, hlt, by go_num, by rw [HT.out]; go_num, below_from (hb.alloc hbs _) hb2⟩
      case measure => simp [intOf]; omega
    · obtain rfl : k = n.kids.length := by omega
      have HB := Lib.hid (hB.trans (hb.mono hB.size))
      clear hb
      go_wp2_with fail
      go_ret
      exact ⟨by rw [HD.out, List.take_length]; rfl, HB.out⟩
theorem deep_all : ∀ h, DeepAt h
  | 0 => deep_step 0 (fun _ e => by cases e)
  | h + 1 => deep_step (h + 1) (fun h' e => by cases e; exact deep_all h)
def RCountAt (h : Nat) : Prop := ∀ (n : Nod) (a k : Value) (w : World) (S : Nat → Prop), AttsR false w S a n.attrs → NodsR false h w S k n.kids → n.count ≤ 1000000000 →
    Calls Tryd.prog 21 #[nodV n a k] w fun e w' => e = .returned (.int .i64 n.count) ∧ Below w.heap.size w w'
set_option maxRecDepth 100000 in
set_option maxHeartbeats 2000000 in
theorem rcount_step (h : Nat) (ih : ∀ h', h = h' + 1 → RCountAt h') : RCountAt h := by
  intro n a kv w S hA hK hn
  obtain ⟨la, lc, rfl⟩ := hA.slice
  obtain ⟨ka, kc, rfl, hc, hm, hx⟩ := nods_shape hK
  have HX := Lib.hid hx
  have HI := Lib.hid ih
  have HD := Lib.hid (count_kids n)
  have HN : Hid (1 + Nod.counts n.kids ≤ 1000000000) := Lib.hid (by rw [← count_kids]; exact hn)
  clear hA hK hx ih hn
  unfold maxLen at hm
  obtain ⟨W1, hW1, hB, hz, hB1⟩ := one_node w (.int .i64 n.tag) (.slice la n.attrs.length lc) (.string ⟨n.text.toArray⟩) (.slice ka n.kids.length kc)
  have HZ := Lib.hid hz
  clear hz
  obtain ⟨p1, f1⟩ := blk hB1
  go_enter Tryd.func21, Tryd.ntmps21
  go_wp2_with fail
  go_loopw [3, 4] (fun m i wr => ∃ k : Nat, k ≤ n.kids.length ∧ i = .int .i64 k ∧ m = .int .i64 ((1 + Nod.counts (n.kids.take k) : Nat) : Int) ∧ Below W1.heap.size W1 wr) (fun _ i _ => n.kids.length - (intOf i).toNat)
  case atStart => exact ⟨0, Nat.zero_le _, rfl, by simp [Nod.counts], Below.refl _ _⟩
  case round =>
    obtain ⟨k, hk, rfl, rfl, hb⟩ := hrel
    obtain ⟨p2, f2⟩ := blk (heap_below hb hB1)
    by_cases hlt : k < n.kids.length
    · obtain ⟨x, hl, hd⟩ := getOf n.kids k hlt
      obtain ⟨b, o, xa, xc, ya, yc, h', rfl, rfl, hA⟩ := HX.out k x hl
      have hs1 := hB.size
      have hbw : Below w.heap.size w wr := hB.trans (hb.mono hs1)
      have HT := Lib.hid (counts_take hl)
      have HM := Lib.hid (counts_mem (List.mem_of_getElem? hl))
      have HL := Lib.hid (counts_le n.kids k)
      have HW : Hid (∀ W, Below w.heap.size w W → Calls Tryd.prog 21 #[nodV x (.slice xa x.attrs.length xc) (.slice ya x.kids.length yc)] W fun e w' => e = .returned (.int .i64 x.count) ∧ Below W.heap.size W w') :=
        Lib.hid fun W hW => HI.out h' rfl x _ _ W S (hA.below hW).attrsR (hA.below hW).kidsR (by have := HM.out; have := HN.out; omega)
      obtain ⟨_, c0, c1, c2, c3, _, _⟩ := hA.below hbw
      have hbs := hb.size
      have z0 := HZ.out
      have m1 := HM.out
      have m2 := HN.out
      have m3 := HL.out
      clear hA hd hl
      by_cases hg : Nod.deeps (n.kids.take k) < x.deep + 1
      all_goals
        have HG := Lib.hid hg
        have hg1 : (((x.deep : Nat) : Int) + 1 ≤ ((Nod.deeps (n.kids.take k) : Nat) : Int)) ∨ (((Nod.deeps (n.kids.take k) : Nat) : Int) < ((x.deep : Nat) : Int) + 1) := by omega
        clear hg hg1
        go_wp2_with (go_at_call 21; refine (HW.out _ (by go_grown)).mono ?_; rintro e w2 ⟨rfl, hb2⟩)
        all_goals
          go_roundw
          case rel => exact ⟨k + 1, hlt, by go_num, by rw [HT.out]; have := HG.out; go_num, below_from hb hb2⟩
          case measure => simp [intOf]; omega
    · obtain rfl : k = n.kids.length := by omega
      have HB := Lib.hid (hB.trans (hb.mono hB.size))
      clear hb
      go_wp2_with fail
      go_ret
      exact ⟨by rw [HD.out, List.take_length]; rfl, HB.out⟩
theorem rcount_all : ∀ h, RCountAt h
  | 0 => rcount_step 0 (fun _ e => by cases e)
  | h + 1 => rcount_step (h + 1) (fun h' e => by cases e; exact rcount_all h)
def RDeepAt (h : Nat) : Prop := ∀ (n : Nod) (a k : Value) (w : World) (S : Nat → Prop), AttsR false w S a n.attrs → NodsR false h w S k n.kids → n.deep ≤ 1000000000 →
    Calls Tryd.prog 23 #[nodV n a k] w fun e w' => e = .returned (.int .i64 n.deep) ∧ Below w.heap.size w w'
set_option maxRecDepth 100000 in
set_option maxHeartbeats 2000000 in
theorem rdeep_step (h : Nat) (ih : ∀ h', h = h' + 1 → RDeepAt h') : RDeepAt h := by
  intro n a kv w S hA hK hn
  obtain ⟨la, lc, rfl⟩ := hA.slice
  obtain ⟨ka, kc, rfl, hc, hm, hx⟩ := nods_shape hK
  have HX := Lib.hid hx
  have HI := Lib.hid ih
  have HD := Lib.hid (deep_kids n)
  have HN : Hid (Nod.deeps n.kids ≤ 1000000000) := Lib.hid (by rw [← deep_kids]; exact hn)
  clear hA hK hx ih hn
  unfold maxLen at hm
  obtain ⟨W1, hW1, hB, hz, hB1⟩ := one_node w (.int .i64 n.tag) (.slice la n.attrs.length lc) (.string ⟨n.text.toArray⟩) (.slice ka n.kids.length kc)
  have HZ := Lib.hid hz
  clear hz
  obtain ⟨p1, f1⟩ := blk hB1
  go_enter Tryd.func23, Tryd.ntmps23
  go_wp2_with fail
  go_loopw [3, 4] (fun m i wr => ∃ k : Nat, k ≤ n.kids.length ∧ i = .int .i64 k ∧ m = .int .i64 ((Nod.deeps (n.kids.take k) : Nat) : Int) ∧ Below W1.heap.size W1 wr) (fun _ i _ => n.kids.length - (intOf i).toNat)
  case atStart => exact ⟨0, Nat.zero_le _, rfl, by simp [Nod.deeps], Below.refl _ _⟩
  case round =>
    obtain ⟨k, hk, rfl, rfl, hb⟩ := hrel
    obtain ⟨p2, f2⟩ := blk (heap_below hb hB1)
    by_cases hlt : k < n.kids.length
    · obtain ⟨x, hl, hd⟩ := getOf n.kids k hlt
      obtain ⟨b, o, xa, xc, ya, yc, h', rfl, rfl, hA⟩ := HX.out k x hl
      have hs1 := hB.size
      have hbw : Below w.heap.size w wr := hB.trans (hb.mono hs1)
      have HT := Lib.hid (deeps_take hl)
      have HM := Lib.hid (deeps_mem (List.mem_of_getElem? hl))
      have HL := Lib.hid (deeps_le n.kids k)
      have HW : Hid (∀ W, Below w.heap.size w W → Calls Tryd.prog 23 #[nodV x (.slice xa x.attrs.length xc) (.slice ya x.kids.length yc)] W fun e w' => e = .returned (.int .i64 x.deep) ∧ Below W.heap.size W w') :=
        Lib.hid fun W hW => HI.out h' rfl x _ _ W S (hA.below hW).attrsR (hA.below hW).kidsR (by have := HM.out; have := HN.out; omega)
      obtain ⟨_, c0, c1, c2, c3, _, _⟩ := hA.below hbw
      have hbs := hb.size
      have z0 := HZ.out
      have m1 := HM.out
      have m2 := HN.out
      have m3 := HL.out
      clear hA hd hl
      by_cases hg : Nod.deeps (n.kids.take k) < x.deep + 1
      all_goals
        have HG := Lib.hid hg
        have hg1 : (((x.deep : Nat) : Int) + 1 ≤ ((Nod.deeps (n.kids.take k) : Nat) : Int)) ∨ (((Nod.deeps (n.kids.take k) : Nat) : Int) < ((x.deep : Nat) : Int) + 1) := by omega
        clear hg hg1
        go_wp2_with (go_at_call 23; refine (HW.out _ (by go_grown)).mono ?_; rintro e w2 ⟨rfl, hb2⟩)
        all_goals
          go_roundw
          case rel => exact ⟨k + 1, hlt, by go_num, by rw [HT.out]; have := HG.out; go_num, below_from hb hb2⟩
          case measure => simp [intOf]; omega
    · obtain rfl : k = n.kids.length := by omega
      have HB := Lib.hid (hB.trans (hb.mono hB.size))
      clear hb
      go_wp2_with fail
      go_ret
      exact ⟨by rw [HD.out, List.take_length]; rfl, HB.out⟩
theorem rdeep_all : ∀ h, RDeepAt h
  | 0 => rdeep_step 0 (fun _ e => by cases e)
  | h + 1 => rdeep_step (h + 1) (fun h' e => by cases e; exact rdeep_all h)
end Go.Proofs.YtgeaijnelopkbaaDoor
namespace Go.Proofs.Qw
def lowc (c : UInt8) : UInt8 := if 65 ≤ c ∧ c ≤ 90 then c + 32 else c
def low (l : List UInt8) : List UInt8 := l.map lowc
def splitL (c : UInt8) : List UInt8 → List (List UInt8)
  | [] => [[]]
  | b :: l => if b = c then [] :: splitL c l else (b :: (splitL c l).headD []) :: (splitL c l).tail
theorem splitL_ne (c : UInt8) : ∀ l, splitL c l ≠ []
  | [] => by simp [splitL]
  | b :: l => by unfold splitL; split <;> simp
def underline : List UInt8 := [117, 110, 100, 101, 114, 108, 105, 110, 101]
def through : List UInt8 := [108, 105, 110, 101, 45, 116, 104, 114, 111, 117, 103, 104]
def fontWeight : List UInt8 := [102, 111, 110, 116, 45, 119, 101, 105, 103, 104, 116]
def fontStyle : List UInt8 := [102, 111, 110, 116, 45, 115, 116, 121, 108, 101]
def textDeco : List UInt8 := [116, 101, 120, 116, 45, 100, 101, 99, 111, 114, 97, 116, 105, 111, 110]
def bold : List UInt8 := [98, 111, 108, 100]
def w700 : List UInt8 := [55, 48, 48]
def normal : List UInt8 := [110, 111, 114, 109, 97, 108]
def w400 : List UInt8 := [52, 48, 48]
def italic : List UInt8 := [105, 116, 97, 108, 105, 99]
def none_ : List UInt8 := [110, 111, 110, 101]
def wordsGo (b : Int) (s : Bool) : List (List UInt8) → Int × Bool
  | [] => (b, s)
  | w :: r => if w = underline then wordsGo (bits .or .i64 b 4) true r
    else if w = through then wordsGo (bits .or .i64 b 8) true r
    else if w = [] then wordsGo b s r else (0, false)
def words (l : List UInt8) : Int × Bool := wordsGo 0 false (splitL 32 l)
theorem wordsGo1 {b : Int} {s : Bool} {w : List UInt8} {r : List (List UInt8)} (h : w = underline) : wordsGo b s (w :: r) = wordsGo (bits .or .i64 b 4) true r := by rw [wordsGo, if_pos h]
theorem wordsGo2 {b : Int} {s : Bool} {w : List UInt8} {r : List (List UInt8)} (h1 : w ≠ underline) (h : w = through) : wordsGo b s (w :: r) = wordsGo (bits .or .i64 b 8) true r := by rw [wordsGo, if_neg h1, if_pos h]
theorem wordsGo3 {b : Int} {s : Bool} {w : List UInt8} {r : List (List UInt8)} (h1 : w ≠ underline) (h2 : w ≠ through) (h : w = []) : wordsGo b s (w :: r) = wordsGo b s r := by rw [wordsGo, if_neg h1, if_neg h2, if_pos h]
theorem wordsGo4 {b : Int} {s : Bool} {w : List UInt8} {r : List (List UInt8)} (h1 : w ≠ underline) (h2 : w ≠ through) (h : w ≠ []) : wordsGo b s (w :: r) = (0, false) := by rw [wordsGo, if_neg h1, if_neg h2, if_neg h]
theorem low_length (l : List UInt8) : (low l).length = l.length := by simp [low]
theorem lowc_yes {b : UInt8} (h1 : 65 ≤ (b.toNat : Int)) (h2 : (b.toNat : Int) ≤ 90) : (b.toNat : Int) + 32 = ((lowc b).toNat : Int) := by
  have : 65 ≤ b ∧ b ≤ 90 := by rw [UInt8.le_iff_toNat_le, UInt8.le_iff_toNat_le]; simp; omega
  unfold lowc
  rw [if_pos this, UInt8.toNat_add]
  simp; omega
theorem lowc_no {b : UInt8} (h : ¬ (65 ≤ (b.toNat : Int) ∧ (b.toNat : Int) ≤ 90)) : lowc b = b := by
  unfold lowc
  rw [if_neg]
  rw [UInt8.le_iff_toNat_le, UInt8.le_iff_toNat_le]; simp; omega
theorem low_step {l : List UInt8} {k : Nat} {b : UInt8} (h : l[k]? = some b) : (low (l.take k) ++ l.drop k).set k (lowc b) = low (l.take (k + 1)) ++ l.drop (k + 1) := by
  obtain ⟨hk, rfl⟩ := List.getElem?_eq_some_iff.1 h
  have e : (low (l.take k)).length = k := by rw [low_length, List.length_take]; omega
  rw [List.set_append_right _ _ (by omega), e, Nat.sub_self, List.drop_eq_getElem_cons hk, List.set_cons_zero, List.take_succ_eq_append_getElem hk]
  unfold low
  rw [List.map_append, List.append_assoc]
  rfl
theorem low_keep {l : List UInt8} {k : Nat} {b : UInt8} (h : l[k]? = some b) (hb : lowc b = b) : low (l.take k) ++ l.drop k = low (l.take (k + 1)) ++ l.drop (k + 1) := by
  rw [← low_step h, hb]
  obtain ⟨hk, rfl⟩ := List.getElem?_eq_some_iff.1 h
  have e : (low (l.take k)).length = k := by rw [low_length, List.length_take]; omega
  rw [List.set_append_right _ _ (by omega), e, Nat.sub_self, List.drop_eq_getElem_cons hk, List.set_cons_zero]
theorem index_one_cons (b c : UInt8) (l : List UInt8) : Lib.index (b :: l) [c] = if b = c then 0 else if Lib.index l [c] = -1 then -1 else Lib.index l [c] + 1 := by
  rw [Lib.index_one, Lib.index_one, Lib.indexByte]
  simp only [beq_iff_eq]
theorem splitK_eq (c : UInt8) : ∀ (l : List UInt8) (k : Nat), l.count c ≤ k → Lib.splitK [c] 0 k l = splitL c l := by
  intro l
  induction l with
  | nil => intro k _; cases k <;> simp [Lib.splitK, splitL, Lib.index_one, Lib.indexByte]
  | cons b l ih =>
    intro k hk
    by_cases hb : b = c
    · subst hb
      cases k with
      | zero => simp at hk
      | succ k =>
        rw [Lib.splitK, index_one_cons, if_pos rfl]
        simp only [List.length_singleton]
        rw [splitL, if_pos rfl]
        simp
        exact ih k (by simpa using hk)
    · rw [splitL, if_neg hb]
      rw [List.count_cons_of_ne hb] at hk
      have hi := ih k hk
      have hge := Lib.indexByte_ge l c
      rw [← Lib.index_one] at hge
      cases k with
      | zero =>
        have : splitL c l = [l] := by rw [← hi, Lib.splitK]
        rw [Lib.splitK, this]; simp
      | succ k =>
        rw [Lib.splitK, index_one_cons, if_neg hb]
        rw [← hi, Lib.splitK]
        by_cases h1 : Lib.index l [c] = -1
        · simp [h1]
        · have h4 : (Lib.index l [c] == -1) = false := by rw [beq_eq_false_iff_ne]; exact h1
          have h5 : ¬ Lib.index l [c] + 1 = -1 := by omega
          simp only [h4, if_neg h1, Bool.false_eq_true, if_false, List.length_singleton, beq_iff_eq, if_neg h5]
          have e1 : (Lib.index l [c] + 1).toNat = (Lib.index l [c]).toNat + 1 := by omega
          simp [e1]
theorem splitB_one (c : UInt8) (s : ByteArray) : (Lib.splitB ⟨#[c]⟩ 0 (Lib.countB s ⟨#[c]⟩) s).map (·.data.toList) = splitL c s.data.toList := by
  rw [Lib.splitB_data]
  refine splitK_eq c _ _ ?_
  show _ ≤ Lib.count s.data.toList [c]
  rw [Lib.count_one]
  exact Nat.le_refl _
theorem splitB_len (c : UInt8) (s : ByteArray) : (Lib.splitB ⟨#[c]⟩ 0 (Lib.countB s ⟨#[c]⟩) s).length = Lib.countB s ⟨#[c]⟩ + 1 :=
  Lib.splitB_all ⟨#[c]⟩ (Nat.le_refl 1) 0 _ s rfl
theorem countB_small (c : UInt8) (s : ByteArray) : Lib.countB s ⟨#[c]⟩ ≤ s.size := Lib.countB_le ⟨#[c]⟩ (Nat.le_refl 1) _ s (Nat.le_refl _)
def declOf (d : List UInt8) : Option (List UInt8 × List UInt8) :=
  if (Lib.cut d [58]).2.2 = true then some (low (Lib.trimB (Lib.cut d [58]).1 32), low (Lib.trimB (Lib.cut d [58]).2.1 32)) else none
def decls (l : List UInt8) : List (List UInt8 × List UInt8) := (splitL 59 l).filterMap declOf
theorem splitL_le (c : UInt8) : ∀ (l : List UInt8) (x : List UInt8), x ∈ splitL c l → x.length ≤ l.length
  | [], x, h => by simp [splitL] at h; simp [h]
  | b :: l, x, h => by
    unfold splitL at h
    split at h
    · rcases List.mem_cons.1 h with rfl | h
      · simp
      · have := splitL_le c l x h; simp; omega
    · rcases List.mem_cons.1 h with rfl | h
      · have hn := splitL_ne c l
        match hs : splitL c l with
        | [] => exact absurd hs hn
        | y :: r =>
          have := splitL_le c l y (by rw [hs]; simp)
          simp; omega
      · have := splitL_le c l x (List.mem_of_mem_tail h); simp; omega
theorem dropWhile_le {α : Type} (p : α → Bool) : ∀ l : List α, (l.dropWhile p).length ≤ l.length
  | [] => by simp
  | b :: l => by rw [List.dropWhile_cons]; have := dropWhile_le p l; split <;> simp; omega
theorem trimB_le (l : List UInt8) (c : UInt8) : (Lib.trimB l c).length ≤ l.length := by
  unfold Lib.trimB Lib.trimLeftB Lib.trimRightB
  have h1 := dropWhile_le (· == c) l.reverse
  have h2 := dropWhile_le (· == c) (l.reverse.dropWhile (· == c)).reverse
  simp at h1 h2
  simp; omega
theorem cut_le (d : List UInt8) : (Lib.cut d [58]).1.length ≤ d.length ∧ (Lib.cut d [58]).2.1.length ≤ d.length := by
  unfold Lib.cut
  split <;> simp
  omega
theorem take_snoc {α : Type} {xs : List α} {k : Nat} {x : α} (h : xs[k]? = some x) : xs.take (k + 1) = xs.take k ++ [x] := by
  obtain ⟨hk, rfl⟩ := List.getElem?_eq_some_iff.1 h
  exact List.take_succ_eq_append_getElem hk
theorem fm_none {α β γ : Type} {f : α → β} {g : β → Option γ} {xs : List α} {k : Nat} {x : α} (h : xs[k]? = some x) (hg : g (f x) = none) : ((xs.take (k + 1)).map f).filterMap g = ((xs.take k).map f).filterMap g := by
  rw [take_snoc h, List.map_append, List.filterMap_append, List.map_singleton, List.filterMap_cons_none hg, List.filterMap_nil, List.append_nil]
theorem fm_some {α β γ : Type} {f : α → β} {g : β → Option γ} {xs : List α} {k : Nat} {x : α} {y : γ} (h : xs[k]? = some x) (hg : g (f x) = some y) : ((xs.take (k + 1)).map f).filterMap g = ((xs.take k).map f).filterMap g ++ [y] := by
  rw [take_snoc h, List.map_append, List.filterMap_append, List.map_singleton, List.filterMap_cons_some hg, List.filterMap_nil]
def cssSay (st : Int × Int) (on off : Int) : Int × Int := (bits .or .i64 (bits .andNot .i64 st.1 off) on, bits .or .i64 (bits .andNot .i64 st.2 on) off)
def cssStepT (t : List UInt8) (st : Int × Int) (nm vl : List UInt8) : Int × Int :=
  if t = [102, 111, 110, 116, 45, 119, 101, 105, 103, 104, 116, 58, 98, 111, 108, 100] then cssSay st 1 0 else
  if t = [102, 111, 110, 116, 45, 119, 101, 105, 103, 104, 116, 58, 55, 48, 48] then cssSay st 1 0 else
  if t = [102, 111, 110, 116, 45, 119, 101, 105, 103, 104, 116, 58, 110, 111, 114, 109, 97, 108] then cssSay st 0 1 else
  if t = [102, 111, 110, 116, 45, 119, 101, 105, 103, 104, 116, 58, 52, 48, 48] then cssSay st 0 1 else
  if t = [102, 111, 110, 116, 45, 115, 116, 121, 108, 101, 58, 105, 116, 97, 108, 105, 99] then cssSay st 2 0 else
  if t = [102, 111, 110, 116, 45, 115, 116, 121, 108, 101, 58, 110, 111, 114, 109, 97, 108] then cssSay st 0 2 else
  if t = [116, 101, 120, 116, 45, 100, 101, 99, 111, 114, 97, 116, 105, 111, 110, 58, 110, 111, 110, 101] then cssSay st 0 12 else
  if (words vl).2 = true then (if nm = textDeco then cssSay st (words vl).1 (bits .andNot .i64 12 (words vl).1) else st) else st
def cssStep (st : Int × Int) (x : List UInt8 × List UInt8) : Int × Int := cssStepT (x.1 ++ 58 :: x.2) st x.1 x.2
theorem cssT1 {t : List UInt8} {st : Int × Int} {nm vl : List UInt8} (h : t = [102, 111, 110, 116, 45, 119, 101, 105, 103, 104, 116, 58, 98, 111, 108, 100]) : cssStepT t st nm vl = cssSay st 1 0 := by rw [cssStepT, if_pos h]
theorem cssT2 {t : List UInt8} {st : Int × Int} {nm vl : List UInt8} (h1 : ¬ t = [102, 111, 110, 116, 45, 119, 101, 105, 103, 104, 116, 58, 98, 111, 108, 100]) (h : t = [102, 111, 110, 116, 45, 119, 101, 105, 103, 104, 116, 58, 55, 48, 48]) : cssStepT t st nm vl = cssSay st 1 0 := by rw [cssStepT, if_neg h1, if_pos h]
theorem cssT3 {t : List UInt8} {st : Int × Int} {nm vl : List UInt8} (h1 : ¬ t = [102, 111, 110, 116, 45, 119, 101, 105, 103, 104, 116, 58, 98, 111, 108, 100]) (h2 : ¬ t = [102, 111, 110, 116, 45, 119, 101, 105, 103, 104, 116, 58, 55, 48, 48])
    (h : t = [102, 111, 110, 116, 45, 119, 101, 105, 103, 104, 116, 58, 110, 111, 114, 109, 97, 108]) : cssStepT t st nm vl = cssSay st 0 1 := by rw [cssStepT, if_neg h1, if_neg h2, if_pos h]
theorem cssT4 {t : List UInt8} {st : Int × Int} {nm vl : List UInt8} (h1 : ¬ t = [102, 111, 110, 116, 45, 119, 101, 105, 103, 104, 116, 58, 98, 111, 108, 100]) (h2 : ¬ t = [102, 111, 110, 116, 45, 119, 101, 105, 103, 104, 116, 58, 55, 48, 48])
    (h3 : ¬ t = [102, 111, 110, 116, 45, 119, 101, 105, 103, 104, 116, 58, 110, 111, 114, 109, 97, 108]) (h : t = [102, 111, 110, 116, 45, 119, 101, 105, 103, 104, 116, 58, 52, 48, 48]) : cssStepT t st nm vl = cssSay st 0 1 := by
  rw [cssStepT, if_neg h1, if_neg h2, if_neg h3, if_pos h]
theorem cssT5 {t : List UInt8} {st : Int × Int} {nm vl : List UInt8} (h1 : ¬ t = [102, 111, 110, 116, 45, 119, 101, 105, 103, 104, 116, 58, 98, 111, 108, 100]) (h2 : ¬ t = [102, 111, 110, 116, 45, 119, 101, 105, 103, 104, 116, 58, 55, 48, 48])
    (h3 : ¬ t = [102, 111, 110, 116, 45, 119, 101, 105, 103, 104, 116, 58, 110, 111, 114, 109, 97, 108]) (h4 : ¬ t = [102, 111, 110, 116, 45, 119, 101, 105, 103, 104, 116, 58, 52, 48, 48])
    (h : t = [102, 111, 110, 116, 45, 115, 116, 121, 108, 101, 58, 105, 116, 97, 108, 105, 99]) : cssStepT t st nm vl = cssSay st 2 0 := by rw [cssStepT, if_neg h1, if_neg h2, if_neg h3, if_neg h4, if_pos h]
theorem cssT6 {t : List UInt8} {st : Int × Int} {nm vl : List UInt8} (h1 : ¬ t = [102, 111, 110, 116, 45, 119, 101, 105, 103, 104, 116, 58, 98, 111, 108, 100]) (h2 : ¬ t = [102, 111, 110, 116, 45, 119, 101, 105, 103, 104, 116, 58, 55, 48, 48])
    (h3 : ¬ t = [102, 111, 110, 116, 45, 119, 101, 105, 103, 104, 116, 58, 110, 111, 114, 109, 97, 108]) (h4 : ¬ t = [102, 111, 110, 116, 45, 119, 101, 105, 103, 104, 116, 58, 52, 48, 48])
    (h5 : ¬ t = [102, 111, 110, 116, 45, 115, 116, 121, 108, 101, 58, 105, 116, 97, 108, 105, 99]) (h : t = [102, 111, 110, 116, 45, 115, 116, 121, 108, 101, 58, 110, 111, 114, 109, 97, 108]) : cssStepT t st nm vl = cssSay st 0 2 := by
  rw [cssStepT, if_neg h1, if_neg h2, if_neg h3, if_neg h4, if_neg h5, if_pos h]
theorem cssT7 {t : List UInt8} {st : Int × Int} {nm vl : List UInt8} (h1 : ¬ t = [102, 111, 110, 116, 45, 119, 101, 105, 103, 104, 116, 58, 98, 111, 108, 100]) (h2 : ¬ t = [102, 111, 110, 116, 45, 119, 101, 105, 103, 104, 116, 58, 55, 48, 48])
    (h3 : ¬ t = [102, 111, 110, 116, 45, 119, 101, 105, 103, 104, 116, 58, 110, 111, 114, 109, 97, 108]) (h4 : ¬ t = [102, 111, 110, 116, 45, 119, 101, 105, 103, 104, 116, 58, 52, 48, 48])
    (h5 : ¬ t = [102, 111, 110, 116, 45, 115, 116, 121, 108, 101, 58, 105, 116, 97, 108, 105, 99]) (h6 : ¬ t = [102, 111, 110, 116, 45, 115, 116, 121, 108, 101, 58, 110, 111, 114, 109, 97, 108])
    (h : t = [116, 101, 120, 116, 45, 100, 101, 99, 111, 114, 97, 116, 105, 111, 110, 58, 110, 111, 110, 101]) : cssStepT t st nm vl = cssSay st 0 12 := by
  rw [cssStepT, if_neg h1, if_neg h2, if_neg h3, if_neg h4, if_neg h5, if_neg h6, if_pos h]
theorem cssT8 {t : List UInt8} {st : Int × Int} {nm vl : List UInt8} (h1 : ¬ t = [102, 111, 110, 116, 45, 119, 101, 105, 103, 104, 116, 58, 98, 111, 108, 100]) (h2 : ¬ t = [102, 111, 110, 116, 45, 119, 101, 105, 103, 104, 116, 58, 55, 48, 48])
    (h3 : ¬ t = [102, 111, 110, 116, 45, 119, 101, 105, 103, 104, 116, 58, 110, 111, 114, 109, 97, 108]) (h4 : ¬ t = [102, 111, 110, 116, 45, 119, 101, 105, 103, 104, 116, 58, 52, 48, 48])
    (h5 : ¬ t = [102, 111, 110, 116, 45, 115, 116, 121, 108, 101, 58, 105, 116, 97, 108, 105, 99]) (h6 : ¬ t = [102, 111, 110, 116, 45, 115, 116, 121, 108, 101, 58, 110, 111, 114, 109, 97, 108])
    (h7 : ¬ t = [116, 101, 120, 116, 45, 100, 101, 99, 111, 114, 97, 116, 105, 111, 110, 58, 110, 111, 110, 101]) :
    cssStepT t st nm vl = if (words vl).2 = true then (if nm = textDeco then cssSay st (words vl).1 (bits .andNot .i64 12 (words vl).1) else st) else st := by
  rw [cssStepT, if_neg h1, if_neg h2, if_neg h3, if_neg h4, if_neg h5, if_neg h6, if_neg h7]
def cssParse (l : List UInt8) : Int × Int := (decls l).foldl cssStep (0, 0)
end Go.Proofs.Qw
namespace Go.Proofs.Qw
def en (v : BitVec 64) : Int := IntKind.i64.wrap (v.toNat : Int)
theorem of_en (v : BitVec 64) : BitVec.ofInt 64 (en v) = v := by
  apply BitVec.eq_of_toNat_eq
  have := v.isLt
  unfold en
  rw [IntKind.wrap_i64, BitVec.toNat_ofInt]
  omega
theorem en_or (u v : BitVec 64) : bits .or .i64 (en u) (en v) = en (u ||| v) := by
  show IntKind.i64.wrap (((BitVec.ofInt 64 (en u) ||| BitVec.ofInt 64 (en v)).toNat : Nat) : Int) = _
  rw [of_en, of_en]; rfl
theorem en_and (u v : BitVec 64) : bits .and .i64 (en u) (en v) = en (u &&& v) := by
  show IntKind.i64.wrap (((BitVec.ofInt 64 (en u) &&& BitVec.ofInt 64 (en v)).toNat : Nat) : Int) = _
  rw [of_en, of_en]; rfl
theorem en_andNot (u v : BitVec 64) : bits .andNot .i64 (en u) (en v) = en (u &&& ~~~v) := by
  show IntKind.i64.wrap (((BitVec.ofInt 64 (en u) &&& ~~~BitVec.ofInt 64 (en v)).toNat : Nat) : Int) = _
  rw [of_en, of_en]; rfl
theorem en_of {x : Int} (h1 : -9223372036854775808 ≤ x) (h2 : x ≤ 9223372036854775807) : en (BitVec.ofInt 64 x) = x := by
  unfold en
  rw [IntKind.wrap_i64, BitVec.toNat_ofInt]
  omega
theorem en0 : (0 : Int) = en 0#64 := by decide +kernel
theorem en1 : (1 : Int) = en 1#64 := by decide +kernel
theorem en2 : (2 : Int) = en 2#64 := by decide +kernel
theorem en4 : (4 : Int) = en 4#64 := by decide +kernel
theorem en8 : (8 : Int) = en 8#64 := by decide +kernel
theorem en12 : (12 : Int) = en 12#64 := by decide +kernel
theorem en15 : (15 : Int) = en 15#64 := by decide +kernel
abbrev St := BitVec 64 × BitVec 64
def enS (p : St) : Int × Int := (en p.1, en p.2)
def ov (p q : St) : St := (p.1 &&& ~~~q.2 ||| q.1, p.2 &&& ~~~q.1 ||| q.2)
theorem ov_zero (p : St) : ov p (0#64, 0#64) = p := by
  unfold ov
  apply Prod.ext <;> apply BitVec.eq_of_getElem_eq <;> intro i hi <;> simp only [BitVec.getElem_or, BitVec.getElem_and, BitVec.getElem_not, BitVec.getElem_zero]
  · cases p.1[i] <;> rfl
  · cases p.2[i] <;> rfl
theorem enS_say (p : St) (on off : BitVec 64) : cssSay (enS p) (en on) (en off) = enS (ov p (on, off)) := by
  unfold cssSay enS ov
  simp only [en_andNot, en_or]
def wordsBGo (b : BitVec 64) (s : Bool) : List (List UInt8) → BitVec 64 × Bool
  | [] => (b, s)
  | w :: r => if w = underline then wordsBGo (b ||| 4#64) true r
    else if w = through then wordsBGo (b ||| 8#64) true r
    else if w = [] then wordsBGo b s r else (0#64, false)
theorem wordsBGo_eq : ∀ (r : List (List UInt8)) (b : BitVec 64) (s : Bool), wordsGo (en b) s r = (en (wordsBGo b s r).1, (wordsBGo b s r).2)
  | [], b, s => rfl
  | w :: r, b, s => by
    unfold wordsGo wordsBGo
    rw [en4, en_or, en8, en_or]
    split
    · exact wordsBGo_eq r _ _
    · split
      · exact wordsBGo_eq r _ _
      · split
        · exact wordsBGo_eq r _ _
        · exact congrArg (·, false) en0
def sub (v m : BitVec 64) : Prop := v &&& ~~~m = 0#64
theorem wordsBGo_sub : ∀ (r : List (List UInt8)) (b : BitVec 64) (s : Bool), sub b 12#64 → sub (wordsBGo b s r).1 12#64
  | [], b, s, h => h
  | w :: r, b, s, h => by
    unfold wordsBGo
    have h4 : sub (b ||| 4#64) 12#64 := by
      unfold sub at h ⊢
      rw [BitVec.and_or_distrib_right, h]; decide
    have h8 : sub (b ||| 8#64) 12#64 := by
      unfold sub at h ⊢
      rw [BitVec.and_or_distrib_right, h]; decide
    split
    · exact wordsBGo_sub r _ _ h4
    · split
      · exact wordsBGo_sub r _ _ h8
      · split
        · exact wordsBGo_sub r _ _ h
        · show sub 0#64 12#64
          unfold sub; decide
def saysB (x : List UInt8 × List UInt8) : St :=
  if x.1 ++ 58 :: x.2 = fontWeight ++ 58 :: bold then (1#64, 0#64) else
  if x.1 ++ 58 :: x.2 = fontWeight ++ 58 :: w700 then (1#64, 0#64) else
  if x.1 ++ 58 :: x.2 = fontWeight ++ 58 :: normal then (0#64, 1#64) else
  if x.1 ++ 58 :: x.2 = fontWeight ++ 58 :: w400 then (0#64, 1#64) else
  if x.1 ++ 58 :: x.2 = fontStyle ++ 58 :: italic then (2#64, 0#64) else
  if x.1 ++ 58 :: x.2 = fontStyle ++ 58 :: normal then (0#64, 2#64) else
  if x.1 ++ 58 :: x.2 = textDeco ++ 58 :: none_ then (0#64, 12#64) else
  if (wordsBGo 0#64 false (splitL 32 x.2)).2 = true then (if x.1 = textDeco then ((wordsBGo 0#64 false (splitL 32 x.2)).1, 12#64 &&& ~~~(wordsBGo 0#64 false (splitL 32 x.2)).1) else (0#64, 0#64)) else (0#64, 0#64)
theorem ite_enS {p a' b' : St} {c : Prop} [Decidable c] {a b : Int × Int} (h1 : a = enS (ov p a')) (h2 : b = enS (ov p b')) : (if c then a else b) = enS (ov p (if c then a' else b')) := by split <;> assumption
theorem step_says (p : St) (x : List UInt8 × List UInt8) : cssStep (enS p) x = enS (ov p (saysB x)) := by
  have hw : words x.2 = (en (wordsBGo 0#64 false (splitL 32 x.2)).1, (wordsBGo 0#64 false (splitL 32 x.2)).2) := by
    unfold words
    rw [en0]; exact wordsBGo_eq _ _ _
  unfold cssStep cssStepT saysB
  rw [hw]
  simp only [fontWeight, fontStyle, textDeco, bold, w700, normal, w400, italic, none_, List.cons_append, List.nil_append]
  rw [en0, en1, en2, en12, en_andNot]
  exact ite_enS (enS_say _ _ _) (ite_enS (enS_say _ _ _) (ite_enS (enS_say _ _ _) (ite_enS (enS_say _ _ _) (ite_enS (enS_say _ _ _) (ite_enS (enS_say _ _ _) (ite_enS (enS_say _ _ _) (ite_enS (ite_enS (enS_say _ _ _) (congrArg enS (ov_zero p).symm)) (congrArg enS (ov_zero p).symm))))))))
def fine (p : St) : Prop := p.1 &&& p.2 = 0#64 ∧ (p.1 ||| p.2) &&& ~~~15#64 = 0#64
theorem fine_bits {p : St} (h : fine p) (i : Nat) (hi : i < 64) : (p.1[i] && p.2[i]) = false ∧ ((p.1[i] || p.2[i]) && !(15#64)[i]) = false := by
  have h1 := congrArg (fun v => v[i]) h.1
  have h2 := congrArg (fun v => v[i]) h.2
  simp only [BitVec.getElem_and, BitVec.getElem_or, BitVec.getElem_not, BitVec.getElem_zero] at h1 h2
  exact ⟨h1, h2⟩
theorem fine_of {p : St} (h : ∀ (i : Nat) (hi : i < 64), (p.1[i] && p.2[i]) = false ∧ ((p.1[i] || p.2[i]) && !(15#64)[i]) = false) : fine p := by
  constructor <;> apply BitVec.eq_of_getElem_eq <;> intro i hi
  · simpa using (h i hi).1
  · have := (h i hi).2
    simp only [BitVec.getElem_and, BitVec.getElem_or, BitVec.getElem_not, BitVec.getElem_zero]
    exact this
theorem fine_ov {p q : St} (hp : fine p) (hq : fine q) : fine (ov p q) := by
  refine fine_of fun i hi => ?_
  have h1 := fine_bits hp i hi
  have h2 := fine_bits hq i hi
  unfold ov
  simp only [BitVec.getElem_and, BitVec.getElem_or, BitVec.getElem_not]
  revert h1 h2
  cases p.1[i] <;> cases p.2[i] <;> cases q.1[i] <;> cases q.2[i] <;> cases (15#64)[i] <;> decide
theorem fine_says (x : List UInt8 × List UInt8) : fine (saysB x) := by
  have hs := wordsBGo_sub (splitL 32 x.2) 0#64 false (by unfold sub; decide)
  have h0 : fine (0#64, 0#64) := by unfold fine; decide
  have h1 : fine (1#64, 0#64) := by unfold fine; decide
  have h2 : fine (0#64, 1#64) := by unfold fine; decide
  have h3 : fine (2#64, 0#64) := by unfold fine; decide
  have h4 : fine (0#64, 2#64) := by unfold fine; decide
  have h5 : fine (0#64, 12#64) := by unfold fine; decide
  have h6 : ∀ v : BitVec 64, sub v 12#64 → fine (v, 12#64 &&& ~~~v) := fun v hv => by
    refine fine_of fun i hi => ?_
    have := congrArg (fun v => v[i]) hv
    have h12 : ((12#64)[i] && !(15#64)[i]) = false := by
      have : 12#64 &&& ~~~15#64 = 0#64 := by decide
      have := congrArg (fun v => v[i]) this
      simpa only [BitVec.getElem_and, BitVec.getElem_not, BitVec.getElem_zero] using this
    simp only [BitVec.getElem_and, BitVec.getElem_not, BitVec.getElem_zero] at this ⊢
    revert this h12
    cases v[i] <;> cases (12#64)[i] <;> cases (15#64)[i] <;> decide
  unfold saysB
  split
  · exact h1
  · split
    · exact h1
    · split
      · exact h2
      · split
        · exact h2
        · split
          · exact h3
          · split
            · exact h4
            · split
              · exact h5
              · split
                · split
                  · exact h6 _ hs
                  · exact h0
                · exact h0
def foldB (p : St) (l : List (List UInt8 × List UInt8)) : St := l.foldl (fun p x => ov p (saysB x)) p
theorem foldB_eq : ∀ (l : List (List UInt8 × List UInt8)) (p : St), l.foldl cssStep (enS p) = enS (foldB p l)
  | [], p => rfl
  | x :: l, p => by
    rw [List.foldl_cons, step_says, foldB_eq l]; rfl
theorem foldB_fine : ∀ (l : List (List UInt8 × List UInt8)) (p : St), fine p → fine (foldB p l)
  | [], _, h => h
  | x :: l, _, h => foldB_fine l _ (fine_ov h (fine_says x))
def parseB (l : List UInt8) : St := foldB (0#64, 0#64) (decls l)
theorem parse_eq (l : List UInt8) : cssParse l = enS (parseB l) := by
  unfold cssParse parseB
  rw [show ((0, 0) : Int × Int) = enS (0#64, 0#64) from Prod.ext en0 en0]
  exact foldB_eq _ _
theorem parse_fine (l : List UInt8) : fine (parseB l) := foldB_fine _ _ (by unfold fine; decide)
theorem splitL_app (c : UInt8) (t : List UInt8) : ∀ s : List UInt8, splitL c (s ++ c :: t) = splitL c s ++ splitL c t
  | [] => by simp [splitL]
  | b :: s => by
    have ih := splitL_app c t s
    rw [List.cons_append, splitL, splitL]
    split
    · rw [ih]; rfl
    · have hn := splitL_ne c s
      rw [ih]
      match h : splitL c s with
      | [] => exact absurd h hn
      | y :: r => rfl
def cutL : List UInt8 → List UInt8 × List UInt8 × Bool
  | [] => ([], [], false)
  | b :: l => if b = 58 then ([], l, true) else (b :: (cutL l).1, (cutL l).2.1, (cutL l).2.2)
theorem cut_eq : ∀ d : List UInt8, Lib.cut d [58] = cutL d
  | [] => by decide
  | b :: l => by
    have ih := cut_eq l
    have hge := Lib.indexByte_ge l 58
    rw [← Lib.index_one] at hge
    unfold Lib.cut at ih ⊢
    rw [index_one_cons, cutL]
    by_cases hb : b = 58
    · subst hb; simp
    · rw [if_neg hb, if_neg hb, ← ih]
      by_cases h1 : Lib.index l [58] = -1
      · simp [h1]
      · rw [if_neg h1, if_pos (by omega), if_pos (by omega)]
        have e1 : (Lib.index l [58] + 1).toNat = (Lib.index l [58]).toNat + 1 := by omega
        simp [e1]
theorem trimB_snoc (l : List UInt8) (c : UInt8) : Lib.trimB (l ++ [c]) c = Lib.trimB l c := by
  unfold Lib.trimB Lib.trimRightB
  rw [List.reverse_append, List.reverse_singleton, List.singleton_append, List.dropWhile_cons_of_pos (by simp)]
theorem trimB_cons (l : List UInt8) (c : UInt8) : Lib.trimB (c :: l) c = Lib.trimB l c := by
  unfold Lib.trimB Lib.trimRightB Lib.trimLeftB
  rw [List.reverse_cons, List.dropWhile_append]
  split
  · rename_i h
    rw [List.isEmpty_iff.1 h, List.dropWhile_cons_of_pos (by simp)]
    rfl
  · rw [List.reverse_append, List.reverse_singleton, List.singleton_append, List.dropWhile_cons_of_pos (by simp)]
theorem splitL_snoc (c b : UInt8) (hb : b ≠ c) : ∀ s : List UInt8, ∃ l x, splitL c s = l ++ [x] ∧ splitL c (s ++ [b]) = l ++ [x ++ [b]]
  | [] => ⟨[], [], rfl, by simp [splitL, hb]⟩
  | a :: s => by
    obtain ⟨l, x, h1, h2⟩ := splitL_snoc c b hb s
    rw [List.cons_append, splitL, splitL]
    by_cases ha : a = c
    · rw [if_pos ha, if_pos ha, h1, h2]
      exact ⟨[] :: l, x, rfl, rfl⟩
    · rw [if_neg ha, if_neg ha, h1, h2]
      cases l with
      | nil => exact ⟨[], a :: x, rfl, rfl⟩
      | cons y r => exact ⟨(a :: y) :: r, x, rfl, rfl⟩
end Go.Proofs.Qw
namespace Go.Proofs.Qw
open Go.RowKit
def attrF (ats : List Att) (name : List UInt8) : Option (List UInt8) := (ats.find? fun a => decide (a.name = name)).map (·.value)
def styleN : List UInt8 := [115, 116, 121, 108, 101]
def hrefN : List UInt8 := [104, 114, 101, 102]
def saysN (n : Nod) : Int × Int := if n.tag = 11 then (1, 0) else if n.tag = 12 then (2, 0) else if n.tag = 13 then (4, 0) else if n.tag = 14 then (8, 0) else if n.tag = 15 then cssParse ((attrF n.attrs styleN).getD []) else (0, 0)
def bitsN (n : Nod) (around : Int) : Int := bits .or .i64 (bits .andNot .i64 around (saysN n).2) (saysN n).1
def linkN (n : Nod) (around : List UInt8) : List UInt8 := match attrF n.attrs hrefN with | some h => if n.tag = 10 ∧ targetF h = true then h else around | none => around
def wrap1 (b k tag : Int) (o : List Nod) : List Nod := if bits .and .i64 b k = 0 then o else [.mk tag [] [] o]
def wrapB (b : Int) (kids : List Nod) : List Nod := wrap1 b 1 11 (wrap1 b 2 12 (wrap1 b 4 13 (wrap1 b 8 14 kids)))
def wrapN (b : Int) (href : List UInt8) (kids : List Nod) : List Nod := if href = [] then wrapB b kids else [.mk 10 (hrefA href) [] (wrapB b kids)]
theorem says_fine (n : Nod) : ∃ p : St, fine p ∧ saysN n = enS p := by
  have hf : ∀ v : BitVec 64, v &&& ~~~15#64 = 0#64 → fine (v, 0#64) := fun v hv => ⟨by simp, by simpa using hv⟩
  unfold saysN
  split
  · exact ⟨(1#64, 0#64), hf _ (by decide), by decide +kernel⟩
  · split
    · exact ⟨(2#64, 0#64), hf _ (by decide), by decide +kernel⟩
    · split
      · exact ⟨(4#64, 0#64), hf _ (by decide), by decide +kernel⟩
      · split
        · exact ⟨(8#64, 0#64), hf _ (by decide), by decide +kernel⟩
        · split
          · exact ⟨_, parse_fine _, parse_eq _⟩
          · exact ⟨(0#64, 0#64), hf _ (by decide), by decide +kernel⟩
theorem over_law (n : Nod) (around : Int) (link : List UInt8) (h1 : -9223372036854775808 ≤ around) (h2 : around ≤ 9223372036854775807) :
    bitsN n (bitsN n around) = bitsN n around ∧ linkN n (linkN n link) = linkN n link ∧ bits .and .i64 (saysN n).1 (saysN n).2 = 0 ∧ bits .andNot .i64 (bits .or .i64 (saysN n).1 (saysN n).2) 15 = 0 ∧
    (linkN n link = link ∨ (n.tag = 10 ∧ targetF (linkN n link) = true)) := by
  obtain ⟨p, hf, e⟩ := says_fine n
  refine ⟨?_, ?_, ?_, ?_, ?_⟩
  · unfold bitsN
    rw [e, ← en_of h1 h2]
    generalize BitVec.ofInt 64 around = v
    simp only [enS, en_or, en_andNot]
    apply congrArg en
    apply BitVec.eq_of_getElem_eq
    intro i hi
    simp only [BitVec.getElem_or, BitVec.getElem_and, BitVec.getElem_not]
    cases v[i] <;> cases p.1[i] <;> cases p.2[i] <;> rfl
  · unfold linkN
    cases attrF n.attrs hrefN with
    | none => rfl
    | some h => simp only; split <;> rfl
  · rw [e]
    simp only [enS, en_and]
    exact (congrArg en hf.1).trans en0.symm
  · rw [e]
    simp only [enS, en_or]
    rw [en15, en_andNot]
    exact (congrArg en hf.2).trans en0.symm
  · unfold linkN
    cases attrF n.attrs hrefN with
    | none => exact .inl rfl
    | some h =>
      simp only
      split
      · rename_i h; exact .inr h
      · exact .inl rfl
def offW : List Nod × Int × List UInt8 → List Nod × Int × List UInt8
  | ([m], g, k) => (m.kids, bitsN m g, linkN m k)
  | x => x
def offs : Nat → List Nod × Int × List UInt8 → List Nod × Int × List UInt8
  | 0, x => x
  | n + 1, x => offs n (offW x)
theorem offs_succ : ∀ (n : Nat) (x : List Nod × Int × List UInt8), offs (n + 1) x = offW (offs n x)
  | 0, x => rfl
  | n + 1, x => by rw [offs, offs_succ n, offs]
def bitsC (b : Int) : Nat := (if bits .and .i64 b 1 = 0 then 0 else 1) + (if bits .and .i64 b 2 = 0 then 0 else 1) + (if bits .and .i64 b 4 = 0 then 0 else 1) + (if bits .and .i64 b 8 = 0 then 0 else 1)
theorem low_is (b : Int) (h1 : -9223372036854775808 ≤ b) (h2 : b ≤ 9223372036854775807) (k : Int) (m : BitVec 64) (hk : k = en m) : bits .and .i64 b k = en (BitVec.ofInt 64 b &&& m) := by
  conv => lhs; rw [← en_of h1 h2, hk]
  exact en_and _ _
theorem en_inj {u v : BitVec 64} (h : en u = en v) : u = v := by rw [← of_en u, ← of_en v, h]
theorem and_bit (v : BitVec 64) (m : BitVec 64) (j : Nat) (hj : j < 64) (hm : ∀ i (hi : i < 64), m[i] = decide (i = j)) : (v &&& m = 0#64 ↔ v[j] = false) := by
  constructor
  · intro h
    have := congrArg (fun x : BitVec 64 => x[j]) h
    simp only [BitVec.getElem_and, hm j hj, BitVec.getElem_zero] at this
    simpa using this
  · intro h
    apply BitVec.eq_of_getElem_eq
    intro i hi
    simp only [BitVec.getElem_and, hm i hi, BitVec.getElem_zero]
    by_cases e : i = j
    · subst e; simp [h]
    · simp [e]
theorem low_four (v : BitVec 64) : v &&& 15#64 = (if v &&& 1#64 = 0#64 then 0#64 else 1#64) ||| (if v &&& 2#64 = 0#64 then 0#64 else 2#64) ||| (if v &&& 4#64 = 0#64 then 0#64 else 4#64) ||| (if v &&& 8#64 = 0#64 then 0#64 else 8#64) := by
  have h1 := and_bit v 1#64 0 (by decide) (by decide)
  have h2 := and_bit v 2#64 1 (by decide) (by decide)
  have h4 := and_bit v 4#64 2 (by decide) (by decide)
  have h8 := and_bit v 8#64 3 (by decide) (by decide)
  simp only [h1, h2, h4, h8]
  have hs : v &&& 15#64 = ((v &&& 1#64) ||| (v &&& 2#64)) ||| (v &&& 4#64) ||| (v &&& 8#64) := by
    rw [← BitVec.and_or_distrib_left, ← BitVec.and_or_distrib_left, ← BitVec.and_or_distrib_left]
    rfl
  have one : ∀ (m : BitVec 64) (j : Nat) (hj : j < 64), (∀ i (hi : i < 64), m[i] = decide (i = j)) → v &&& m = if v[j] = false then 0#64 else m := by
    intro m j hj hm
    split
    · rename_i h; exact (and_bit v m j hj hm).2 h
    · rename_i h
      apply BitVec.eq_of_getElem_eq
      intro i hi
      simp only [BitVec.getElem_and, hm i hi]
      by_cases e : i = j
      · subst e; simp at h; simp [h]
      · simp [e]
  rw [hs, one 1#64 0 (by decide) (by decide), one 2#64 1 (by decide) (by decide), one 4#64 2 (by decide) (by decide), one 8#64 3 (by decide) (by decide)]
theorem low_sum (b : Int) (h1 : -9223372036854775808 ≤ b) (h2 : b ≤ 9223372036854775807) : bits .and .i64 b 15 = (if bits .and .i64 b 1 = 0 then 0 else 1) + (if bits .and .i64 b 2 = 0 then 0 else 2) + (if bits .and .i64 b 4 = 0 then 0 else 4) + (if bits .and .i64 b 8 = 0 then 0 else 8) := by
  have e : ∀ m : BitVec 64, (en (BitVec.ofInt 64 b &&& m) = 0) = (BitVec.ofInt 64 b &&& m = 0#64) := fun m => propext ⟨fun h => en_inj (h.trans en0), fun h => by rw [h]; exact en0.symm⟩
  rw [low_is b h1 h2 15 _ en15, low_is b h1 h2 1 _ en1, low_is b h1 h2 2 _ en2, low_is b h1 h2 4 _ en4, low_is b h1 h2 8 _ en8, low_four]
  simp only [e]
  by_cases c1 : BitVec.ofInt 64 b &&& 1#64 = 0#64 <;> by_cases c2 : BitVec.ofInt 64 b &&& 2#64 = 0#64 <;> by_cases c4 : BitVec.ofInt 64 b &&& 4#64 = 0#64 <;> by_cases c8 : BitVec.ofInt 64 b &&& 8#64 = 0#64 <;> simp only [c1, c2, c4, c8, if_true, if_false] <;> decide +kernel
theorem wraps_law (b : Int) (href : List UInt8) (kids : List Nod) (h1 : -9223372036854775808 ≤ b) (h2 : b ≤ 9223372036854775807) :
    (∀ i, i < bitsC b + (if href = [] then 0 else 1) → (offs i (wrapN b href kids, 0, [])).1.length = 1) ∧
    offs (bitsC b + (if href = [] then 0 else 1)) (wrapN b href kids, 0, []) = (kids, bits .and .i64 b 15, if targetF href = true ∧ href ≠ [] then href else []) := by
  have z1 : ∀ (g : Int) (ks : List Nod), bitsN (.mk 11 [] [] ks) g = bits .or .i64 (bits .andNot .i64 g 0) 1 := fun _ _ => rfl
  have z2 : ∀ (g : Int) (ks : List Nod), bitsN (.mk 12 [] [] ks) g = bits .or .i64 (bits .andNot .i64 g 0) 2 := fun _ _ => rfl
  have z4 : ∀ (g : Int) (ks : List Nod), bitsN (.mk 13 [] [] ks) g = bits .or .i64 (bits .andNot .i64 g 0) 4 := fun _ _ => rfl
  have z8 : ∀ (g : Int) (ks : List Nod), bitsN (.mk 14 [] [] ks) g = bits .or .i64 (bits .andNot .i64 g 0) 8 := fun _ _ => rfl
  have zl : ∀ (t : Int) (ks : List Nod) (k : List UInt8), linkN (.mk t [] [] ks) k = k := fun t ks k => rfl
  have za : ∀ (ks : List Nod), bitsN (.mk 10 (hrefA href) [] ks) 0 = 0 ∧ linkN (.mk 10 (hrefA href) [] ks) [] = if targetF href = true then href else [] := by
    intro ks
    have zz : bitsN (.mk 10 (hrefA href) [] ks) 0 = bits .or .i64 (bits .andNot .i64 0 0) 0 := rfl
    refine ⟨zz.trans (by decide +kernel), ?_⟩
    unfold linkN
    have : attrF (Nod.mk 10 (hrefA href) [] ks).attrs hrefN = some href := rfl
    rw [this]
    simp [Nod.tag]
  have hs := low_sum b h1 h2
  have hz : ∀ (k : List UInt8), (∀ i, i < bitsC b → (offs i (wrapB b kids, 0, k)).1.length = 1) ∧ offs (bitsC b) (wrapB b kids, 0, k) = (kids, bits .and .i64 b 15, k) := by
    intro k
    rw [hs]
    unfold bitsC wrapB wrap1
    by_cases c1 : bits .and .i64 b 1 = 0 <;> by_cases c2 : bits .and .i64 b 2 = 0 <;> by_cases c4 : bits .and .i64 b 4 = 0 <;> by_cases c8 : bits .and .i64 b 8 = 0 <;> simp only [c1, c2, c4, c8, if_true, if_false, Nat.add_zero, Nat.zero_add, Nat.reduceAdd, Int.add_zero, Int.zero_add, Int.reduceAdd]
    all_goals
      refine ⟨fun i hi => ?_, ?_⟩
      · rcases i with _ | _ | _ | _ | i <;> first | rfl | (exfalso; omega)
      · simp only [offs, offW, zl, Nod.kids, z1, z2, z4, z8]
        try (simp only [Prod.mk.injEq, true_and, and_true]; decide +kernel)
  unfold wrapN
  by_cases hh : href = []
  · rw [if_pos hh, if_pos hh]
    have := hz []
    refine ⟨this.1, this.2.trans ?_⟩
    rw [if_neg (fun h => h.2 hh)]
  · rw [if_neg hh, if_neg hh]
    have e0 : offW ([Nod.mk 10 (hrefA href) [] (wrapB b kids)], 0, []) = (wrapB b kids, 0, if targetF href = true then href else []) := by
      simp only [offW, Nod.kids, (za (wrapB b kids)).1, (za (wrapB b kids)).2]
    have := hz (if targetF href = true then href else [])
    refine ⟨fun i hi => ?_, ?_⟩
    · cases i with
      | zero => rfl
      | succ i => rw [offs, e0]; exact this.1 i (by omega)
    · rw [offs, e0, this.2]
      by_cases ht : targetF href = true
      · rw [if_pos ht, if_pos ⟨ht, hh⟩]
      · rw [if_neg ht, if_neg (fun h => ht h.1)]
end Go.Proofs.Qw
namespace Go.Proofs.Qw
open Go.RowKit
theorem attrF_cons (x : Att) (l : List Att) (nm : List UInt8) : attrF (x :: l) nm = if x.name = nm then some x.value else attrF l nm := by
  unfold attrF
  by_cases h : x.name = nm
  · rw [if_pos h, List.find?_cons_of_pos (by simpa using h)]; rfl
  · rw [if_neg h, List.find?_cons_of_neg (by simpa using h)]
def PlaceA (d : List Att) (nm : List UInt8) (z : Int) : Prop := (z = -1 ∧ attrF d nm = none) ∨ ∃ (k : Nat) (x : Att), z = k ∧ d[k]? = some x ∧ attrF d nm = some x.value
end Go.Proofs.Qw
namespace Go.Proofs.YtgeaijnelopkbaaDoor
open Go.RowKit
open Go.Proofs.Qw
attribute [local go_sem ↓] Go.wp_at_zero Go.wp_at_succ
set_option maxHeartbeats 1000000 in
theorem at1_any (x : Att) (nm : List UInt8) (B : Nat) (T : TypeId) (w : World) (hB : w.heap[B]? = some (.cells #[.string ⟨nm.toArray⟩] T)) :
    Calls Tryd.prog 72 #[.agg #[.string ⟨x.name.toArray⟩, .string ⟨x.value.toArray⟩], .pointer (some ⟨B, 0, none⟩)] w fun e w' => e = .returned (.bool (decide (x.name = nm))) ∧ Below w.heap.size w w' := by
  obtain ⟨p1, f1⟩ := blk hB
  have hz : B < w.heap.size := (Array.getElem?_eq_some_iff.1 hB).1
  have ne1 : ¬ B = w.heap.size := by omega
  have ne2 : ¬ w.heap.size = B := by omega
  go_enter Tryd.func72, Tryd.ntmps72
  go_wp2_with fail
  go_ret
  refine ⟨?_, (Below.refl _ _).alloc (Nat.le_refl _) _⟩
  by_cases h : x.name = nm <;> simp [h]
set_option maxHeartbeats 1000000 in
theorem indexAtt_any (v : Value) (d : List Att) (nm : List UInt8) (B : Nat) (T : TypeId) (w : World) (S : Nat → Prop) (h : AttsR false w S v d) (hB : w.heap[B]? = some (.cells #[.string ⟨nm.toArray⟩] T)) :
    Calls Tryd.prog 71 #[v, .func (.func 72) #[] #[.pointer (some ⟨B, 0, none⟩)]] w fun e w' => ∃ z, e = .returned (.int .i64 z) ∧ PlaceA d nm z ∧ Below w.heap.size w w' := by
  obtain ⟨a, c, rfl, hc, hm, hx⟩ := atts_shape h
  have HX := Lib.hid hx
  have HB := Lib.hid hB
  clear hx h hB
  unfold maxLen at hm
  go_enter Tryd.func71, Tryd.ntmps71
  go_wp2_with fail
  go_loopw [8] (fun i wr => ∃ k : Nat, k ≤ d.length ∧ i = .int .i64 k ∧ Hid (attrF d nm = attrF (d.drop k) nm) ∧ Below w.heap.size w wr) (fun i _ => d.length - (intOf i).toNat)
  case atStart => exact ⟨0, Nat.zero_le _, rfl, Lib.hid rfl, Below.refl _ _⟩
  case round =>
    obtain ⟨k, hk, rfl, HG, hb⟩ := hrel
    by_cases hlt : k < d.length
    · obtain ⟨x, hl, hd⟩ := getOf d k hlt
      obtain ⟨b, o, rfl, hbz, c0, c1⟩ := HX.out k x hl
      have c0 := (hb.cell (p := ⟨b, o + k * 2, none⟩) hbz).trans c0
      have c1 := (hb.cell (p := ⟨b, o + k * 2 + 1, none⟩) hbz).trans c1
      have HE : Hid (attrF d nm = if x.name = nm then some x.value else attrF (d.drop (k + 1)) nm) := Lib.hid (by rw [HG.out, hd, attrF_cons])
      have HL := Lib.hid hl
      have HC := Lib.hid (at1_any x nm B T wr (heap_below hb HB.out))
      obtain ⟨r, hr⟩ : ∃ r, decide (x.name = nm) = r := ⟨_, rfl⟩
      have HR := Lib.hid hr
      rw [hr] at HC
      clear hd hl hr
      go_wp2_with (go_at_call 72; refine HC.out.mono ?_; rintro e w1 ⟨rfl, hb1⟩; cases r)
      · go_roundw
        case rel => exact ⟨k + 1, hlt, by go_num, Lib.hid (HE.out.trans (if_neg (by simpa using HR.out))), below_from hb hb1⟩
        case measure => simp [intOf]; omega
      · go_ret
        refine ⟨_, rfl, ?_, below_from hb hb1⟩
        exact .inr ⟨k, x, rfl, HL.out, HE.out.trans (if_pos (by simpa using HR.out))⟩
    · obtain rfl : k = d.length := by omega
      go_wp2_with fail
      go_ret
      refine ⟨_, rfl, .inl ⟨rfl, ?_⟩, hb⟩
      rw [HG.out, List.drop_eq_nil_of_le (Nat.le_refl _)]
      rfl
set_option maxHeartbeats 1000000 in
theorem attrAt_any (v : Value) (d : List Att) (nm : List UInt8) (w : World) (S : Nat → Prop) (h : AttsR false w S v d) :
    Calls Tryd.prog 50 #[v, .string ⟨nm.toArray⟩] w fun e w' => ∃ z, e = .returned (.int .i64 z) ∧ PlaceA d nm z ∧ Below w.heap.size w w' := by
  have HC : Hid (∀ T, Calls Tryd.prog 71 #[v, .func (.func 72) #[] #[.pointer (some ⟨w.heap.size, 0, none⟩)]] (w.alloc (.cells #[.string ⟨nm.toArray⟩] T)) fun e w' => ∃ z, e = .returned (.int .i64 z) ∧ PlaceA d nm z ∧ Below w.heap.size w w') :=
    Lib.hid fun T => (indexAtt_any v d nm w.heap.size T _ S (SliceR.below (rdOf_stable _) h ((Below.refl _ _).alloc (Nat.le_refl _) _)) (heap_new _ _ rfl)).mono fun _ _ ⟨z, h1, h2, h3⟩ => ⟨z, h1, h2, below_from ((Below.refl _ _).alloc (Nat.le_refl _) _) h3⟩
  obtain ⟨a, c, rfl⟩ := h.slice
  clear h
  generalize d.length = m at *
  go_enter Tryd.func50, Tryd.ntmps50
  go_wp2_with (go_at_call 71; refine (HC.out _).mono ?_; rintro e w1 ⟨z, rfl, hz, hb1⟩; have HZ := Lib.hid hz; clear hz)
  go_ret
  exact ⟨_, rfl, HZ.out, hb1⟩
set_option maxHeartbeats 1000000 in
theorem attrGet_any (v : Value) (d : List Att) (nm : List UInt8) (w : World) (S : Nat → Prop) (h : AttsR false w S v d) :
    Calls Tryd.prog 34 #[v, .string ⟨nm.toArray⟩] w fun e w' => e = .returned (.tuple #[.string ⟨((attrF d nm).getD []).toArray⟩, .bool (attrF d nm).isSome]) ∧ Below w.heap.size w w' := by
  have HC := Lib.hid (attrAt_any v d nm w S h)
  obtain ⟨a, c, rfl, hc, hm, hx⟩ := atts_shape h
  have HX := Lib.hid hx
  clear hx h
  unfold maxLen at hm
  go_enter Tryd.func34, Tryd.ntmps34
  go_upto_if 11 with (go_at_call 50; refine HC.out.mono ?_; rintro e w1 ⟨z, rfl, hz, hb1⟩; have HZ := Lib.hid hz; have HB1 := Lib.hid hb1; clear hz hb1)
  obtain ⟨rfl, he⟩ | ⟨k, x, rfl, hl, he⟩ := HZ.out
  · have HE := Lib.hid he
    clear he
    go_wp2_with fail
    go_ret2
    rw [HE.out]
    exact ⟨rfl, HB1.out⟩
  · have HE := Lib.hid he
    obtain ⟨b, o, rfl, hbz, c0, c1⟩ := HX.out k x hl
    have hlt : k < d.length := (List.getElem?_eq_some_iff.1 hl).1
    have c1 := (HB1.out.cell (p := ⟨b, o + k * 2 + 1, none⟩) hbz).trans c1
    have i0 : (0 : Int) ≤ (k : Int) := Int.natCast_nonneg _
    have i1 : (k : Int) < (d.length : Int) := by omega
    clear he hl c0
    go_wp2_with fail
    go_ret2
    rw [HE.out]
    exact ⟨rfl, HB1.out⟩
end Go.Proofs.YtgeaijnelopkbaaDoor
namespace Go.Proofs.Qw
open Go.RowKit Go.Proofs.YtgeaijnelopkbaaDoor
theorem attrF_mem {d : List Att} {nm v : List UInt8} (h : attrF d nm = some v) : ∃ x ∈ d, x.value = v := by
  induction d with
  | nil => cases h
  | cons y d ih =>
    rw [attrF_cons] at h
    by_cases c : y.name = nm
    · rw [if_pos c] at h
      injection h with h
      exact ⟨y, by simp, h⟩
    · rw [if_neg c] at h
      obtain ⟨x, h1, h2⟩ := ih h
      exact ⟨x, by simp [h1], h2⟩
theorem attrF_size {d : List Att} {nm : List UInt8} {m : Nat} (h : ∀ x ∈ d, x.value.length ≤ m) : ((attrF d nm).getD []).length ≤ m := by
  cases hf : attrF d nm with
  | none => simp
  | some v =>
    obtain ⟨x, h1, h2⟩ := attrF_mem hf
    have := h x h1
    rw [← h2]
    exact this
end Go.Proofs.Qw
namespace Go.Proofs.YtgeaijnelopkbaaDoor
open Go.RowKit
open Go.Proofs.Qw
attribute [local go_sem ↓] Go.wp_at_zero Go.wp_at_succ
def CssP : Prop := ∀ (s : ByteArray) (w : World), Env w → s.size ≤ 100000 → Calls Tryd.prog 35 #[.string s] w fun e w' => e = .returned (.tuple #[.int .i64 (cssParse s.data.toList).1, .int .i64 (cssParse s.data.toList).2]) ∧ Below w.heap.size w w'
set_option maxRecDepth 100000 in
set_option maxHeartbeats 2000000 in
theorem nodSays_any (HP : CssP) (n : Nod) (a : Value) (ka : Option Addr) (km kc : Nat) (w : World) (S : Nat → Prop) (hA : AttsR false w S a n.attrs) (he : Env w) (hsz : ∀ x ∈ n.attrs, x.value.length ≤ 100000) :
    Calls Tryd.prog 10 #[nodV n a (.slice ka km kc)] w fun e w' => e = .returned (.tuple #[.int .i64 (saysN n).1, .int .i64 (saysN n).2]) ∧ Below w.heap.size w w' := by
  obtain ⟨la, lc, rfl⟩ := hA.slice
  obtain ⟨W1, hW1, hB, hz, hB1⟩ := one_node w (.int .i64 n.tag) (.slice la n.attrs.length lc) (.string ⟨n.text.toArray⟩) (.slice ka km kc)
  have HG : Hid (∀ W, Below w.heap.size w W → Calls Tryd.prog 34 #[.slice la n.attrs.length lc, .string ⟨#[115, 116, 121, 108, 101]⟩] W fun e w' => e = .returned (.tuple #[.string ⟨((attrF n.attrs styleN).getD []).toArray⟩, .bool (attrF n.attrs styleN).isSome]) ∧ Below W.heap.size W w') :=
    Lib.hid fun W hW => attrGet_any _ n.attrs styleN W S (hA.below (rdOf_stable _) hW)
  have HC : Hid (∀ W, Below w.heap.size w W → Calls Tryd.prog 35 #[.string ⟨((attrF n.attrs styleN).getD []).toArray⟩] W fun e w' => e = .returned (.tuple #[.int .i64 (cssParse ((attrF n.attrs styleN).getD [])).1, .int .i64 (cssParse ((attrF n.attrs styleN).getD [])).2]) ∧ Below W.heap.size W w') :=
    Lib.hid fun W hW => HP _ W (he.below hW) (by have := attrF_size (nm := styleN) hsz; simpa [ByteArray.size] using this)
  have HS : Hid (saysN n = if n.tag = 11 then (1, 0) else if n.tag = 12 then (2, 0) else if n.tag = 13 then (4, 0) else if n.tag = 14 then (8, 0) else if n.tag = 15 then cssParse ((attrF n.attrs styleN).getD []) else (0, 0)) := Lib.hid rfl
  have HB := Lib.hid hB
  obtain ⟨p1, f1⟩ := blk hB1
  clear hA he hsz hz
  unfold nodV
  generalize n.attrs.length = m at *
  generalize cssParse ((attrF n.attrs styleN).getD []) = r at *
  generalize (attrF n.attrs styleN).isSome = q at *
  generalize ((attrF n.attrs styleN).getD []).toArray = y at *
  generalize n.tag = t at *
  go_enter Tryd.func10, Tryd.ntmps10
  by_cases h1 : t = 11
  · subst h1
    go_wp2_with fail
    go_ret2
    rw [HS.out]
    exact ⟨rfl, HB.out⟩
  by_cases h2 : t = 12
  · subst h2
    go_wp2_with fail
    go_ret2
    rw [HS.out]
    exact ⟨rfl, HB.out⟩
  by_cases h3 : t = 13
  · subst h3
    go_wp2_with fail
    go_ret2
    rw [HS.out]
    exact ⟨rfl, HB.out⟩
  by_cases h4 : t = 14
  · subst h4
    go_wp2_with fail
    go_ret2
    rw [HS.out]
    exact ⟨rfl, HB.out⟩
  by_cases h5 : t = 15
  · subst h5
    go_wp2_with (first
      | (go_at_call 34; refine (HG.out _ HB.out).mono ?_; rintro e w2 ⟨rfl, hb2⟩; have HB2 := Lib.hid (below_from HB.out hb2); clear hb2)
      | (go_at_call 35; refine (HC.out _ HB2.out).mono ?_; rintro e w3 ⟨rfl, hb3⟩))
    go_ret2
    rw [HS.out]
    exact ⟨rfl, below_from HB2.out hb3⟩
  · have HT := Lib.hid (⟨h1, h2, h3, h4, h5⟩ : ¬ t = 11 ∧ ¬ t = 12 ∧ ¬ t = 13 ∧ ¬ t = 14 ∧ ¬ t = 15)
    go_wp2_with fail
    go_ret2
    obtain ⟨g1, g2, g3, g4, g5⟩ := HT.out
    rw [HS.out, if_neg g1, if_neg g2, if_neg g3, if_neg g4, if_neg g5]
    exact ⟨rfl, HB.out⟩
end Go.Proofs.YtgeaijnelopkbaaDoor
