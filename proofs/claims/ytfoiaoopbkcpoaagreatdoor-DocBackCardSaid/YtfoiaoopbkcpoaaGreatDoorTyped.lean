/- An append to a row of one's own turns no block of another type. -/
import Derived.Test.YtfoiaoopbkcpoaaGreatDoorBase
namespace Go.Proofs.Qw
open Go.RowKit Go.Proofs.YtfoiaoopbkcpoaaGreatDoor
theorem append_typed {P : Program} {st tx ty t : TypeId} {k : Nat} (hT : RowT P st t k) {α : Type} {R : Rd α} (hE : Elt t k R) {w : World} {n : Nat} {v x : Value} {xs ys : List α} {news : List Value}
    (h1 : SliceR t k R true w (fun b => n ≤ b) v xs) (hs : Src P k tx x ys.length news w) (hlen : xs.length + ys.length ≤ 100000000)
    {v' : Value} {w' : World} (hr : (Builtin.append_ #[st, tx] ty #[v, x]).run P w = .ok v' w') : ∀ b, b < w.heap.size → (∀ cs, w.heap[b]? ≠ some (.cells cs t)) → w'.heap[b]? = w.heap[b]? := by
  obtain ⟨i, z, hi, hz, rfl, hby, hzs⟩ := hT.info
  obtain ⟨a, c, rfl, hc, hcm, hx⟩ := h1
  have hbytes : (xs.length + ys.length) * i.bytes ≤ 140737488355328 := Nat.le_trans (Nat.mul_le_mul hlen hby) (by decide)
  by_cases hroom : xs.length + ys.length ≤ c
  · rcases hx with ⟨rfl, h0⟩ | ⟨b, o, rfl, hb, hzb, hf, he⟩
    · have h0 := h0 rfl
      have hy : ys = [] := List.length_eq_zero_iff.1 (by simp at hroom; omega)
      subst hy
      have hnl : news = [] := List.length_eq_zero_iff.1 (by simpa using hs.newsLen)
      have hcl : (Builtin.firstCells i.size 0 x).run P w = .ok #[] w := by
        have := hs.cells
        rw [hnl] at this
        exact this
      have hrun : (Builtin.append_ #[st, tx] ty #[.slice a 0 c, x]).run P w = .ok (.slice a 0 c) w := by
        rcases hs.kind with ⟨e', hk⟩ | hk <;> cases a <;>
          simp [Builtin.append_, run_underlying hT.under, run_underlying hk, sizeOf, typeInfo, hi, hs.len, h0, hcl, storeCells, Result.andThen]
      have hr : (Builtin.append_ #[st, tx] ty #[.slice a 0 c, x]).run P w = .ok v' w' := hr
      rw [hrun] at hr
      cases hr
      exact fun _ _ _ => rfl
    · obtain ⟨cs, g1, g2⟩ := hf rfl
      have hfit : o + xs.length * i.size + news.length ≤ cs.size := by
        rw [hs.newsLen]
        have : xs.length * i.size + ys.length * i.size ≤ c * i.size := by rw [← Nat.add_mul]; exact Nat.mul_le_mul_right _ hroom
        omega
      have hrun := run_append_room_src (P := P) w st tx ty t i hT.under hi b o xs.length c x ys.length news hs hroom
        (fun j hj => by rw [cell_of_heap g1, Array.getElem?_eq_getElem (by omega)]; rfl) (fun j hj => by rw [World.frozen?, g1]; simp)
      rw [hrun] at hr
      cases hr
      exact fun d hd hno => setCells_other b news (o + xs.length * i.size) w d (fun e => hno cs (e ▸ g1))
  · obtain ⟨olds, ho1⟩ : ∃ olds : List Value, (Builtin.firstCells i.size xs.length (.slice a xs.length c)).run P w.drew = .ok olds.toArray w.drew := by
      obtain ⟨news', q1, q2⟩ := SliceR.src (P := P) (st := st) hT hE.pos hE.ones (own := true) (w := w) (S := fun b => n ≤ b) (v := .slice a xs.length c) (xs := xs) ⟨a, c, rfl, hc, hcm, hx⟩
      exact ⟨news', q1.cellsD⟩
    have hrun := run_append_grow_src (P := P) w st tx ty t i z hT.under hi hz a xs.length c olds ho1 x ys.length news hs (by omega) (by omega) (growslice_fits (by omega) hbytes)
    rw [hrun] at hr
    cases hr
    exact fun d hd _ => Below.heap_alloc _ _ _ hd
/-- The append of a region, which tells that, too. -/
theorem step_append_T {P : Program} {w : World} {ops : Array Oper} {o : Oper} {a : Act} {K : Act → World → Prop} {Q : Exit → Act → World → Prop} {E : Prop} (hgd : o.guard = none) (s x : Operand) (st tx : TypeId)
    (ho : o.op = .call { callee := .builtin .append, args := #[s, x], argTypes := #[st, tx] }) {t : TypeId} {k : Nat} (hT : RowT P st t k) {α : Type} {R : Rd α} (hE : Elt t k R) (n : Nat) (v y : Value) {xs ys : List α} {news : List Value} (hs : a.eval s = v) (hx : a.eval x = y)
    (h1 : SliceR t k R true w (fun b => n ≤ b) v xs) (hn : n ≤ w.heap.size) (hsrc : Src P k tx y ys.length news w) (hnew : NewsR k R w (fun b => n ≤ b) news ys) (hlen : xs.length + ys.length ≤ 100000000)
    (h : ∀ v' w', SliceR t k R true w' (fun b => n ≤ b) v' (xs ++ ys) → Below n w w' → (∀ b, b < w.heap.size → (∀ cs, w.heap[b]? ≠ some (.cells cs t)) → w'.heap[b]? = w.heap[b]?) → K (a.put o.dst v') w') :
    if Region.wanted o (yielded ops a.tmps) = true then Oper.wp P o a w K Q else E := by
  have hw : Region.wanted o (yielded ops a.tmps) = true := by simp [Region.wanted, hgd]
  rw [if_pos hw]
  obtain ⟨v', w', hr, h2, h3, _, _⟩ := append_R (P := P) (ty := o.type) hT hE h1 hn hsrc hnew hlen
  have h4 := append_typed hT hE h1 hsrc hlen hr
  unfold Oper.wp execOp
  simp only [ho, resolve, invoke, builtin, Sem.run_bind, Sem.run_pure, Result.andThen_ok, List.map_toArray, List.map_cons, List.map_nil, hs, hx, hr]
  exact h v' w' h2 h3 h4
end Go.Proofs.Qw
