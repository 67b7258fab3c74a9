/- Places, offsets and steps: what the reference's list says is what the program reckons. Plain. -/
import Derived.Test.YtfoiaoopbkcpoaaGreatDoorRefPlaces
namespace Go.Proofs.YtfoiaoopbkcpoaaGreatDoor
open Go.RowKit
open Go.Proofs.Qw

theorem placesFrom_at : ∀ (d : Doc) (i k : Nat) (p : Ps), (placesFrom i d)[k]? = some p → ∃ m : Nat, p.line = ((i + m : Nat) : Int) ∧ m < d.length ∧ 0 ≤ p.col ∧ p.col ≤ ((d.getD m default).cells.length : Int) ∧ (k : Int) = sizeD (d.take m) + m + p.col
  | [], i, k, p, h => by simp [placesFrom] at h
  | l :: d, i, k, p, h => by
    rw [placesFrom] at h
    by_cases hk : k < l.cells.length + 1
    · rw [List.getElem?_append_left (by simpa using hk), List.getElem?_map, List.getElem?_range hk] at h
      cases h
      refine ⟨0, by simp, by simp, by simp, by simp; omega, by simp [sizeD]⟩
    · rw [List.getElem?_append_right (by simpa using hk)] at h
      simp only [List.length_map, List.length_range] at h
      obtain ⟨m, h1, h2, h3, h4, h5⟩ := placesFrom_at d (i + 1) _ p h
      refine ⟨m + 1, by rw [h1]; congr 1; omega, by simpa using h2, h3, by simpa using h4, ?_⟩
      simp only [sizeD, List.take_succ_cons, List.map_cons, List.sum_cons] at h5 ⊢
      omega
theorem placesFrom_has : ∀ (d : Doc) (i m j : Nat), m < d.length → j ≤ (d.getD m default).cells.length → (placesFrom i d)[sizeD (d.take m) + m + j]? = some ⟨((i + m : Nat) : Int), j⟩
  | [], i, m, j, h, _ => by cases h
  | l :: d, i, 0, j, _, h => by
    have h : j ≤ l.cells.length := h
    rw [placesFrom, List.getElem?_append_left (by simp [sizeD]; omega), List.getElem?_map]
    simp only [List.take_zero, sizeD, List.map_nil, List.sum_nil, Nat.zero_add]
    rw [List.getElem?_range (by omega)]
    rfl
  | l :: d, i, m + 1, j, hm, h => by
    have ih := placesFrom_has d (i + 1) m j (by simpa using hm) (by simpa using h)
    have e : sizeD ((l :: d).take (m + 1)) + (m + 1) + j = (l.cells.length + 1) + (sizeD (d.take m) + m + j) := by
      simp only [sizeD, List.take_succ_cons, List.map_cons, List.sum_cons]
      omega
    rw [placesFrom, e, List.getElem?_append_right (by simp)]
    simp only [List.length_map, List.length_range]
    rw [Nat.add_sub_cancel_left, ih]
    congr 2
    omega
theorem places_off {d : Doc} {k : Nat} {p : Ps} (h : (placesD d)[k]? = some p) : offD d p = ((k : Int), 0) := by
  obtain ⟨m, h1, h2, h3, h4, h5⟩ := placesFrom_at d 0 k p h
  obtain ⟨a, b⟩ := p
  simp only [Nat.zero_add] at h1
  subst h1
  obtain ⟨l, hl, _⟩ := getOf d m h2
  have hg : d.getD m default = l := by simp [List.getD, hl]
  rw [hg] at h4
  unfold offD
  rw [isD_at hl]
  simp only at h3 h4 h5
  rw [if_pos (by simp [h3, h4])]
  simp
  omega
theorem off_places {d : Doc} {p : Ps} (h : isD d p = true) : ∃ k : Nat, offD d p = ((k : Int), 0) ∧ (placesD d)[k]? = some p := by
  obtain ⟨i, j⟩ := p
  by_cases hi : 0 ≤ i ∧ i < d.length
  · obtain ⟨i, rfl⟩ := Int.eq_ofNat_of_zero_le hi.1
    obtain ⟨l, hl, _⟩ := getOf d i (by omega)
    have hg : d.getD i default = l := by simp [List.getD, hl]
    rw [isD_at hl] at h
    simp only [Bool.and_eq_true, decide_eq_true_eq] at h
    obtain ⟨j, rfl⟩ := Int.eq_ofNat_of_zero_le h.1
    have := placesFrom_has d 0 i j (by omega) (by rw [hg]; omega)
    simp only [Nat.zero_add] at this
    exact ⟨_, places_off this, this⟩
  · rw [isD_off hi] at h
    cases h
theorem atGo_places : ∀ (d : Doc) (i : Nat) (n : Int), atGo i d n = if h : 0 ≤ n ∧ n < (placesFrom i d).length then ((placesFrom i d)[n.toNat]'(by omega), 0) else (⟨0, 0⟩, 1)
  | [], i, n => by
    rw [dif_neg (by simp [placesFrom])]
    rfl
  | l :: d, i, n => by
    by_cases h0 : n < 0
    · rw [atGo_neg h0, dif_neg (by omega)]
    · by_cases h1 : n ≤ l.cells.length
      · rw [atGo, if_neg h0, if_pos h1, dif_pos ⟨by omega, by simp [placesFrom]; omega⟩]
        congr 1
        simp only [placesFrom]
        rw [List.getElem_append_left (by simp; omega)]
        simp
        omega
      · rw [atGo, if_neg h0, if_neg h1, atGo_places d]
        by_cases h2 : n < (placesFrom i (l :: d)).length
        · have h2' := h2
          simp only [placesFrom, List.length_append, List.length_map, List.length_range] at h2'
          rw [dif_pos ⟨by omega, by omega⟩, dif_pos ⟨by omega, h2⟩]
          congr 1
          simp only [placesFrom]
          rw [List.getElem_append_right (by simp; omega)]
          congr 1
          simp
          omega
        · have h2' := h2
          simp only [placesFrom, List.length_append, List.length_map, List.length_range] at h2'
          rw [dif_neg (by omega), dif_neg (by omega)]
theorem atD_some {d : Doc} {n : Nat} {p : Ps} (h : (placesD d)[n]? = some p) : atD d n = (p, 0) := by
  obtain ⟨h1, h2⟩ := List.getElem?_eq_some_iff.1 h
  unfold atD
  rw [atGo_places, dif_pos ⟨by omega, by unfold placesD at h1; omega⟩]
  simp only [Int.toNat_natCast]
  rw [show (placesFrom 0 d)[n] = p from h2]
theorem atD_none {d : Doc} {n : Int} (h : n < 0 ∨ (placesD d).length ≤ n) : atD d n = (⟨0, 0⟩, 1) := by
  unfold atD
  rw [atGo_places, dif_neg (by unfold placesD at h; omega)]
theorem isD_clamp {d : Doc} (p : Ps) (h : d ≠ []) : isD d (clampD d p) = true := by
  obtain ⟨i, j⟩ := p
  have hd : 0 < d.length := List.length_pos_iff.2 h
  by_cases h0 : i < 0
  · rw [clampD_zero (.inr h0)]
    obtain ⟨l, hl, _⟩ := getOf d 0 hd
    have := isD_at (j := 0) hl
    simp at this
    simpa using this
  · by_cases h1 : (d.length : Int) ≤ i
    · rw [clampD_end (fun e => e.elim h h0) h1]
      obtain ⟨l, hl, _⟩ := getOf d (d.length - 1) (by omega)
      have e : endD d = ⟨((d.length - 1 : Nat) : Int), l.cells.length⟩ := by
        unfold endD
        rw [if_neg h, List.getLastD_eq_getLast?, List.getLast?_eq_getElem?, hl]
        simp only [Option.getD_some, Ps.mk.injEq, and_true]
        omega
      rw [e, isD_at hl]
      simp
    · obtain ⟨i, rfl⟩ := Int.eq_ofNat_of_zero_le (by omega : 0 ≤ i)
      obtain ⟨l, hl, _⟩ := getOf d i (by omega)
      rw [clampD_at hl, isD_at hl]
      simp
      omega
theorem places_first {d : Doc} (h : d ≠ []) : (placesD d)[0]? = some ⟨0, 0⟩ := by
  cases d with
  | nil => exact absurd rfl h
  | cons l d =>
    have := placesFrom_has (l :: d) 0 0 0 (by simp) (Nat.zero_le _)
    simp [sizeD] at this
    exact this
theorem places_last {d : Doc} (h : d ≠ []) : (placesD d)[(placesD d).length - 1]? = some (endD d) := by
  have hd : 0 < d.length := List.length_pos_iff.2 h
  obtain ⟨l, hl, _⟩ := getOf d (d.length - 1) (by omega)
  have hg : d.getD (d.length - 1) default = l := by simp [List.getD, hl]
  have e : endD d = ⟨((d.length - 1 : Nat) : Int), l.cells.length⟩ := by
    unfold endD
    rw [if_neg h, List.getLastD_eq_getLast?, List.getLast?_eq_getElem?, hl]
    simp only [Option.getD_some, Ps.mk.injEq, and_true]
    omega
  have hs := sizeD_step hl
  rw [List.take_of_length_le (by omega)] at hs
  have := placesFrom_has d 0 (d.length - 1) l.cells.length (by omega) (by rw [hg]; omega)
  simp only [Nat.zero_add] at this
  rw [placesD_length, e]
  rw [show sizeD d + d.length - 1 = sizeD (d.take (d.length - 1)) + (d.length - 1) + l.cells.length by omega]
  exact this
end Go.Proofs.YtfoiaoopbkcpoaaGreatDoor
