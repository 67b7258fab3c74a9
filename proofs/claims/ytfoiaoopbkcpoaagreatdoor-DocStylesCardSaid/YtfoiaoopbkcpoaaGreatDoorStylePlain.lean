/- The plain law of DocStyles. -/
import Derived.Test.YtfoiaoopbkcpoaaGreatDoorDocLaws
namespace Go.Proofs.Qw
open Go.RowKit Go.Proofs.YtfoiaoopbkcpoaaGreatDoor
theorem may_setBits {s c : Int} (hs : 0 ≤ s ∧ s ≤ 15) (hc : 0 ≤ c ∧ c ≤ 15) : ∀ x, mayC x = true → mayC (setBits s c x) = true := by
  intro x hx
  unfold mayC at hx ⊢
  simp only [Bool.and_eq_true, decide_eq_true_eq] at hx ⊢
  obtain ⟨⟨⟨h1, h2⟩, h3⟩, h4⟩ := hx
  have h := (bits_fin x.bits s c ⟨h2, h3⟩ hs hc).2.1
  have e1 := (bits_fin x.bits s c ⟨h2, h3⟩ hs hc).1
  have e2 := (bits_fin x.bits c s ⟨h2, h3⟩ hc hs).1
  have e : (setBits s c x).bits = bits .or .i64 (bits .andNot .i64 x.bits c) s := by unfold setBits; simp only [e1, e2]
  rw [e]
  exact ⟨⟨⟨h1, h.1⟩, h.2⟩, h4⟩
theorem may_setHref {h : List UInt8} (hl : linkF h = true) : ∀ x, mayC x = true → mayC (setHref h x) = true := by
  intro x hx
  unfold mayC setHref at *
  simp only [Bool.and_eq_true, decide_eq_true_eq] at hx ⊢
  exact ⟨hx.1, hl⟩
theorem style_facts {d : Doc} {a b : Ps} {s c : Int} {hr : List UInt8} (hs : 0 ≤ s ∧ s ≤ 15) (hc : 0 ≤ c ∧ c ≤ 15) (hl : linkF hr = true) (h : spanD d a b = true) (hne : cellsD d a b ≠ []) :
    ∃ X Y : Doc, setD s c d a b = (X, 0) ∧ linkD hr d a b = (Y, 0) ∧ mayD X = true ∧ mayD Y = true ∧ X.length = d.length ∧ Y.length = d.length ∧ spanD X a b = true ∧
    (0 < (cellsD X a b).length ∧ ((cellsD X a b).all fun x => bits .and .i64 x.bits s == s) = true) ∧ ((cellsD X a b).any fun x => bits .and .i64 x.bits (bits .andNot .i64 c s) != 0) = false ∧ mayCs (cellsD X a b) = true ∧
    ∀ (k : Nat) (l : Lin), d[k]? = some l → ∃ x y : Lin, X[k]? = some x ∧ Y[k]? = some y ∧ (x.quote = l.quote ∧ x.lists = l.lists ∧ x.kind = l.kind) ∧ x.cells.length = l.cells.length ∧ y.cells.length = l.cells.length ∧
      ∀ (q : Nat) (z : Cel), l.cells[q]? = some z → ∃ u v : Cel, x.cells[q]? = some u ∧ y.cells[q]? = some v ∧ u.r = z.r ∧ u.href = z.href ∧ v.r = z.r ∧ v.bits = z.bits ∧ ((cmpP a ⟨k, q⟩ ≤ 0 ∧ cmpP ⟨k, q⟩ b < 0) → v.href = hr) ∧ (¬ (cmpP a ⟨k, q⟩ ≤ 0 ∧ cmpP ⟨k, q⟩ b < 0) → u.bits = z.bits ∧ v.href = z.href) := by
  obtain ⟨g1, g2, g3⟩ := cells_set (may_setBits hs hc) h
  obtain ⟨k1, k2, k3⟩ := cells_set (may_setHref hl) h
  obtain ⟨hM, i, j, p, q, l, m, rfl, rfl, hl1, hm1, hp, hq, hij, hpq⟩ := span_at h
  have hj := (List.getElem?_eq_some_iff.1 hm1).1
  simp only [Int.toNat_natCast] at g1 g2 g3 k1 k2 k3
  have e1 := setRows_get (F := setBits s c) (d := d) (p := p) (q := q) hj hij
  have e2 := setRows_get (F := setHref hr) (d := d) (p := p) (q := q) hj hij
  have len : ∀ (F : Cel → Cel) (D : Doc), (∀ m : Nat, D[m]? = (d[m]?).map (lineF F i p j q m)) → D.length = d.length := fun F D hD => by
    have h1 := hD d.length
    rw [List.getElem?_eq_none (Nat.le_refl _)] at h1
    have h2 : D.length ≤ d.length := List.getElem?_eq_none_iff.1 h1
    have h3 := hD D.length
    rw [List.getElem?_eq_none (Nat.le_refl _)] at h3
    have h4 : d[D.length]? = none := by
      cases hd : d[D.length]? with
      | none => rfl
      | some x => rw [hd] at h3; cases h3
    have := List.getElem?_eq_none_iff.1 h4
    omega
  have hmem : ∀ x ∈ cellsD d ⟨i, p⟩ ⟨j, q⟩, mayC x = true := fun x hx => by
    rw [cellsD_at h] at hx
    unfold cellsL at hx
    obtain ⟨r, hr1, hr2⟩ := List.mem_flatMap.1 hx
    unfold cellsB at hr2
    have hx2 := List.mem_of_mem_drop (List.mem_of_mem_take hr2)
    by_cases hrl : r.1 < d.length
    · obtain ⟨y, hy, _⟩ := getOf d r.1 hrl
      simp only [List.getD, hy, Option.getD_some] at hx2
      have := mayL_has ((mayD_iff.1 hM).2.2.2 y (mem_of_at hy))
      unfold mayCs at this
      exact List.all_eq_true.1 this x hx2
    · simp only [List.getD, List.getElem?_eq_none (Nat.le_of_not_lt hrl), Option.getD_none] at hx2
      cases hx2
  have hb : ∀ x ∈ cellsD d ⟨i, p⟩ ⟨j, q⟩, 0 ≤ x.bits ∧ x.bits ≤ 15 := fun x hx => by
    have := hmem x hx
    unfold mayC at this
    simp only [Bool.and_eq_true, decide_eq_true_eq] at this
    exact ⟨this.1.1.2, this.1.2⟩
  have hbits : ∀ x : Cel, (0 ≤ x.bits ∧ x.bits ≤ 15) → (setBits s c x).bits = bits .or .i64 (bits .andNot .i64 x.bits c) s := fun x hx => by
    unfold setBits
    simp only [(bits_fin x.bits s c hx hs hc).1, (bits_fin x.bits c s hx hc hs).1]
  refine ⟨_, _, by unfold setD eachD; rw [if_pos h, if_neg hne]; rfl, by unfold linkD eachD; rw [if_pos hl, if_pos h, if_neg hne]; rfl, g1, k1, len _ _ e1, len _ _ e2, g2, ⟨?_, ?_⟩, ?_, ?_, fun k l0 hk => ?_⟩
  · show 0 < (cellsD (setRows (fun cs i j => mapIn (setBits s c) i j cs) d (rowsTo d i p j q (j + 1))) ⟨i, p⟩ ⟨j, q⟩).length
    rw [g3, List.length_map]
    exact List.length_pos_iff.2 hne
  · show ((cellsD (setRows (fun cs i j => mapIn (setBits s c) i j cs) d (rowsTo d i p j q (j + 1))) ⟨i, p⟩ ⟨j, q⟩).all _) = true
    rw [g3, List.all_map, List.all_eq_true]
    intro x hx
    simp only [Function.comp, beq_iff_eq, hbits x (hb x hx)]
    exact (bits_fin x.bits s c (hb x hx) hs hc).2.2.1
  · show ((cellsD (setRows (fun cs i j => mapIn (setBits s c) i j cs) d (rowsTo d i p j q (j + 1))) ⟨i, p⟩ ⟨j, q⟩).any _) = false
    rw [g3, List.any_map, List.any_eq_false]
    intro x hx
    simp only [Function.comp, hbits x (hb x hx), (bits_fin x.bits s c (hb x hx) hs hc).2.2.2]
    simp
  · show mayCs (cellsD (setRows (fun cs i j => mapIn (setBits s c) i j cs) d (rowsTo d i p j q (j + 1))) ⟨i, p⟩ ⟨j, q⟩) = true
    rw [g3]
    unfold mayCs
    rw [List.all_map, List.all_eq_true]
    exact fun x hx => may_setBits hs hc x (hmem x hx)
  · have f1 := e1 k
    have f2 := e2 k
    rw [hk] at f1 f2
    refine ⟨_, _, f1, f2, ?_, lineF_length _ _ _ _ _ _ _, lineF_length _ _ _ _ _ _ _, fun n z hz => ?_⟩
    · have := lineF_frame (setBits s c) i p j q k l0
      simp only [Lin.mk.injEq] at this
      exact ⟨this.1, this.2.1, this.2.2.1⟩
    · refine ⟨_, _, lineF_cell _ hij hz, lineF_cell _ hij hz, ?_⟩
      by_cases hin : cmpP ⟨i, p⟩ ⟨k, n⟩ ≤ 0 ∧ cmpP ⟨k, n⟩ ⟨j, q⟩ < 0
      · rw [if_pos hin, if_pos hin]
        exact ⟨rfl, rfl, rfl, rfl, fun _ => rfl, fun h => absurd hin h⟩
      · rw [if_neg hin, if_neg hin]
        exact ⟨rfl, rfl, rfl, rfl, fun h => absurd h hin, fun _ => ⟨rfl, rfl⟩⟩
end Go.Proofs.Qw
