/- Places stand as their numbers do; steps in numbers. Plain. -/
import Derived.Test.YtfoiaoopbkcpoaaDoorPlacePlain
import Derived.Test.YtfoiaoopbkcpoaaDoorDocPos
import Derived.Laws.BitsLemmas
namespace Go.Proofs.YtfoiaoopbkcpoaaDoor
open Go.RowKit
open Go.Proofs.Qw

theorem and_bound (x : Int) (m : Nat) (hm : m < 9223372036854775808) : 0 ≤ bits .and .i64 x m ∧ bits .and .i64 x m ≤ m := by
  have h : ((BitVec.ofInt IntKind.i64.bits x &&& BitVec.ofInt IntKind.i64.bits (m : Int)).toNat) ≤ m := by
    rw [BitVec.toNat_and, BitVec.ofInt_natCast]
    refine Nat.le_trans Nat.and_le_right ?_
    rw [BitVec.toNat_ofNat]
    exact Nat.mod_le _ _
  unfold bits
  dsimp only
  generalize (BitVec.ofInt IntKind.i64.bits x &&& BitVec.ofInt IntKind.i64.bits (m : Int)).toNat = z at *
  rw [IntKind.wrap_i64]
  omega
theorem isD_nat {d : Doc} {p : Ps} (h : isD d p = true) : ∃ (i j : Nat) (l : Lin), p = ⟨i, j⟩ ∧ d[i]? = some l ∧ j ≤ l.cells.length := by
  obtain ⟨x, y⟩ := p
  by_cases hi : 0 ≤ x ∧ x < d.length
  · obtain ⟨i, rfl⟩ := Int.eq_ofNat_of_zero_le hi.1
    obtain ⟨l, hl, _⟩ := getOf d i (by omega)
    rw [isD_at hl] at h
    simp only [Bool.and_eq_true, decide_eq_true_eq] at h
    obtain ⟨p, rfl⟩ := Int.eq_ofNat_of_zero_le h.1
    exact ⟨i, p, l, rfl, hl, by omega⟩
  · rw [isD_off hi] at h
    cases h
theorem clamp_is {d : Doc} {p : Ps} (h : isD d p = true) : clampD d p = p := by
  obtain ⟨i, j, l, rfl, hl, hj⟩ := isD_nat h
  rw [clampD_at hl]
  congr 1
  omega
theorem is_places {d : Doc} {k : Nat} {p : Ps} (h : (placesD d)[k]? = some p) : isD d p = true := by
  obtain ⟨m, h1, h2, h3, h4, _⟩ := placesFrom_at d 0 k p h
  obtain ⟨x, y⟩ := p
  simp only [Nat.zero_add] at h1
  subst h1
  obtain ⟨l, hl, _⟩ := getOf d m h2
  have hg : d.getD m default = l := by simp [List.getD, hl]
  rw [hg] at h4
  rw [isD_at hl]
  simp only at h3 h4
  simp [h3, h4]
theorem take_mono (d : Doc) (a : Nat) : ∀ n : Nat, sizeD (d.take a) ≤ sizeD (d.take (a + n))
  | 0 => Nat.le_refl _
  | n + 1 => by
    have h := take_mono d a n
    by_cases hl : a + n < d.length
    · obtain ⟨l, hl, _⟩ := getOf d (a + n) hl
      have := sizeD_step hl
      rw [show a + (n + 1) = a + n + 1 by omega]
      omega
    · rw [List.take_of_length_le (i := a + n) (by omega)] at h
      rwa [List.take_of_length_le (i := a + (n + 1)) (by omega)]
theorem cmp_places {d : Doc} {i j : Nat} {p q : Ps} (hp : (placesD d)[i]? = some p) (hq : (placesD d)[j]? = some q) : cmpP p q = cmpI i j := by
  obtain ⟨m, h1, h2, h3, h4, h5⟩ := placesFrom_at d 0 i p hp
  obtain ⟨n, k1, k2, k3, k4, k5⟩ := placesFrom_at d 0 j q hq
  simp only [Nat.zero_add] at h1 k1
  obtain ⟨l, hl, _⟩ := getOf d m h2
  obtain ⟨r, hr, _⟩ := getOf d n k2
  have hg : d.getD m default = l := by simp [List.getD, hl]
  have kg : d.getD n default = r := by simp [List.getD, hr]
  rw [hg] at h4
  rw [kg] at k4
  have hs := sizeD_step hl
  have ks := sizeD_step hr
  unfold cmpP cmpI
  rw [h1, k1]
  rcases Nat.lt_trichotomy m n with h | h | h
  · have := take_mono d (m + 1) (n - (m + 1))
    rw [show m + 1 + (n - (m + 1)) = n by omega] at this
    have : (i : Int) < j := by omega
    rw [if_pos (show (m : Int) < n by omega), if_pos this, if_pos (by decide)]
  · subst h
    rw [if_neg (show ¬ (m : Int) < m by omega), if_neg (show ¬ (m : Int) < m by omega), if_neg (by decide)]
    have e1 : (p.col < q.col) = ((i : Int) < j) := propext (by omega)
    have e2 : (q.col < p.col) = ((j : Int) < i) := propext (by omega)
    simp only [e1, e2]
  · have := take_mono d (n + 1) (m - (n + 1))
    rw [show n + 1 + (m - (n + 1)) = m by omega] at this
    have : (j : Int) < i := by omega
    rw [if_neg (show ¬ (m : Int) < n by omega), if_pos (show (n : Int) < m by omega), if_neg (show ¬ (i : Int) < j by omega), if_pos this, if_pos (by decide)]
/-- A step, in numbers. -/
theorem stepD_places {d : Doc} {n : Nat} {p : Ps} (hp : (placesD d)[n]? = some p) (m : Int) : stepD d p m = if m < -(n : Int) then (⟨0, 0⟩, false) else if ((placesD d).length : Int) - 1 - n < m then (endD d, false) else ((atD d (n + m)).1, true) := by
  have hne : d ≠ [] := by rintro rfl; simp [placesD, placesFrom] at hp
  have hl := places_last hne
  have hn := (List.getElem?_eq_some_iff.1 hp).1
  unfold stepD
  rw [if_neg hne, clamp_is (is_places hp), places_off hp, places_off hl]
  simp only
  rw [show (((placesD d).length - 1 : Nat) : Int) = ((placesD d).length : Int) - 1 by omega]
/-- A step back leads to where one was. -/
theorem stepD_back {d : Doc} {n : Nat} {p s : Ps} {m : Int} (hp : (placesD d)[n]? = some p) (h : stepD d p m = (s, true)) : stepD d s (-m) = (p, true) ∧ -(300000 : Int) - (placesD d).length ≤ m ∧ m ≤ 300000 + (placesD d).length := by
  have hn := (List.getElem?_eq_some_iff.1 hp).1
  rw [stepD_places hp] at h
  split at h
  · cases h
  split at h
  · cases h
  rename_i h1 h2
  obtain ⟨k, hk⟩ := Int.eq_ofNat_of_zero_le (show 0 ≤ (n : Int) + m by omega)
  rw [hk] at h
  have hkl : k < (placesD d).length := by omega
  have hpk : (placesD d)[k]? = some (placesD d)[k] := List.getElem?_eq_getElem hkl
  rw [atD_some hpk] at h
  cases h
  refine ⟨?_, by omega, by omega⟩
  rw [stepD_places hpk, if_neg (by omega), if_neg (by omega), show (k : Int) + -m = n by omega, atD_some hp]
/-- A step to another place. -/
theorem stepD_to {d : Doc} {n m : Nat} {p q : Ps} (hp : (placesD d)[n]? = some p) (hq : (placesD d)[m]? = some q) : stepD d p ((m : Int) - n) = (q, true) := by
  have hm := (List.getElem?_eq_some_iff.1 hq).1
  rw [stepD_places hp, if_neg (by omega), if_neg (by omega), show (n : Int) + ((m : Int) - n) = m by omega, atD_some hq]
/-- Where a step ends that leads too far. -/
theorem stepD_off {d : Doc} {n : Nat} {p s : Ps} {m : Int} (hp : (placesD d)[n]? = some p) (h : stepD d p m = (s, false)) : (m < 0 ∧ s = ⟨0, 0⟩) ∨ (0 < m ∧ s = endD d) := by
  have hn := (List.getElem?_eq_some_iff.1 hp).1
  rw [stepD_places hp] at h
  split at h
  · cases h
    exact .inl ⟨by omega, rfl⟩
  split at h
  · cases h
    exact .inr ⟨by omega, rfl⟩
  · cases h
end Go.Proofs.YtfoiaoopbkcpoaaDoor
