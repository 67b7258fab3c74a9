/- The plain laws of documents: parts, what is deleted, put in, split, set: with no program in sight. -/
import Derived.Test.YtfoiaoopbkcpoaaGreatDoorRefSet
import Derived.Test.YtfoiaoopbkcpoaaGreatDoorDocInsert
namespace Go.Proofs.Qw
open Go.RowKit Go.Proofs.YtfoiaoopbkcpoaaGreatDoor
/-- The cells of a document, one behind the other. -/
def flat (d : Doc) : List Cel := d.flatMap (·.cells)
theorem flatc_len (d : Doc) : (flat d).length = sizeD d := by unfold flat sizeD; rw [List.length_flatMap]
theorem flat_append (d e : Doc) : flat (d ++ e) = flat d ++ flat e := by unfold flat; rw [List.flatMap_append]
theorem flat_one (l : Lin) : flat [l] = l.cells := by simp [flat]
theorem split_at {d : Doc} {i : Nat} {l : Lin} (h : d[i]? = some l) : d = d.take i ++ [l] ++ d.drop (i + 1) := by
  have hi := (List.getElem?_eq_some_iff.1 h).1
  have e : d.drop i = l :: d.drop (i + 1) := by
    rw [List.drop_eq_getElem_cons hi, (List.getElem?_eq_some_iff.1 h).2]
  rw [List.append_assoc, List.singleton_append, ← e, List.take_append_drop]
theorem flat_at {d : Doc} {i : Nat} {l : Lin} (h : d[i]? = some l) : flat d = flat (d.take i) ++ (l.cells ++ flat (d.drop (i + 1))) := by
  conv => lhs; rw [split_at h]
  rw [flat_append, flat_append, flat_one, List.append_assoc]
/-- How many cells stand ahead of a place. -/
def offs (d : Doc) (i p : Nat) : Nat := (flat (d.take i)).length + p
theorem flat_take {d : Doc} {i p : Nat} {l : Lin} (h : d[i]? = some l) (hp : p ≤ l.cells.length) : (flat d).take (offs d i p) = flat (d.take i) ++ l.cells.take p := by
  unfold offs
  rw [flat_at h, List.take_length_add_append, List.take_append_of_le_length hp]
theorem flat_drop {d : Doc} {i p : Nat} {l : Lin} (h : d[i]? = some l) (hp : p ≤ l.cells.length) : (flat d).drop (offs d i p) = l.cells.drop p ++ flat (d.drop (i + 1)) := by
  unfold offs
  rw [flat_at h, List.drop_length_add_append, List.drop_append_of_le_length hp]
theorem offs_le {d : Doc} {i p : Nat} {l : Lin} (h : d[i]? = some l) (hp : p ≤ l.cells.length) : offs d i p ≤ (flat d).length := by
  unfold offs
  rw [flat_at h]
  simp only [List.length_append]
  omega
theorem flat_next {d : Doc} {k : Nat} {l : Lin} (h : d[k]? = some l) : flat (d.take (k + 1)) = flat (d.take k) ++ l.cells := by
  rw [List.take_add_one, h, flat_append]
  simp [flat]
/-- The cells between two places are a part of the document's cells. -/
theorem cells_to {d : Doc} {i p j q : Nat} {l m : Lin} (hl : d[i]? = some l) (hm : d[j]? = some m) (hp : p ≤ l.cells.length) (hq : q ≤ m.cells.length) (hij : i ≤ j) (hpq : i = j → p ≤ q) :
    ∀ n k, k = i + n → k ≤ j → (flat (d.take i) ++ l.cells.take p) ++ cellsL d (rowsTo d i p j q k) = if k = i then flat (d.take i) ++ l.cells.take p else flat (d.take k)
  | 0, k, hk, _ => by
    obtain rfl : k = i := hk
    rw [if_pos rfl, rowsTo_nil]
    simp [cellsL]
  | n + 1, k, hk, hkj => by
    obtain ⟨x, hx, _⟩ := getOf d (i + n) (by have := (List.getElem?_eq_some_iff.1 hm).1; omega)
    have ih := cells_to hl hm hp hq hij hpq n (i + n) rfl (by omega)
    subst hk
    have hne : ¬ i + n = j := by omega
    rw [show i + (n + 1) = i + n + 1 from rfl, rowsTo_step d (by omega), cellsL_snoc, ← List.append_assoc, ih, if_neg (show ¬ i + n + 1 = i by omega), rowB_len d hx, cellsB_at (by exact hx), flat_next hx, if_neg hne]
    by_cases hn : n = 0
    · subst hn
      obtain rfl : l = x := by rw [Nat.add_zero] at hx; exact Option.some.inj (hl.symm.trans hx)
      simp only [Nat.add_zero, if_true]
      rw [List.append_assoc]
      congr 1
      rw [List.take_of_length_le (l := l.cells.drop p) (by rw [List.length_drop]; omega)]
      exact List.take_append_drop _ _
    · have hni : ¬ i + n = i := by omega
      simp only [hni, if_false]
      simp
theorem cells_span {d : Doc} {i p j q : Nat} {l m : Lin} (hl : d[i]? = some l) (hm : d[j]? = some m) (hp : p ≤ l.cells.length) (hq : q ≤ m.cells.length) (hij : i ≤ j) (hpq : i = j → p ≤ q) :
    (flat d).take (offs d i p) ++ cellsL d (rowsTo d i p j q (j + 1)) = (flat d).take (offs d j q) := by
  have h := cells_to hl hm hp hq hij hpq (j - i) j (by omega) (Nat.le_refl _)
  rw [flat_take hl hp, flat_take hm hq, rowsTo_step d hij, cellsL_snoc, ← List.append_assoc, h, rowB_len d hm, cellsB_at (by exact hm), if_pos rfl]
  by_cases e : j = i
  · subst e
    obtain rfl : l = m := Option.some.inj (hl.symm.trans hm)
    rw [if_pos rfl, if_pos rfl, List.append_assoc]
    congr 1
    have := hpq rfl
    rw [← List.take_append_drop p (l.cells.take q), List.take_take, Nat.min_eq_left this, List.drop_take]
  · rw [if_neg e, if_neg e]
    simp
theorem cellsD_at {d : Doc} {i p j q : Nat} (h : spanD d ⟨i, p⟩ ⟨j, q⟩ = true) : cellsD d ⟨i, p⟩ ⟨j, q⟩ = cellsL d (rowsTo d i p j q (j + 1)) := by unfold cellsD; rw [if_pos h]; rfl
/-- A place in order, in natural numbers. -/
theorem cmp_le {i p j q : Nat} : cmpP ⟨i, p⟩ ⟨j, q⟩ ≤ 0 ↔ i < j ∨ i = j ∧ p ≤ q := by
  unfold cmpP cmpI
  simp only
  by_cases h : (i : Int) < j
  · simp [h]; omega
  · by_cases h2 : (j : Int) < i
    · simp [h, h2]; omega
    · simp only [h, h2, if_false]
      simp only [ne_eq, not_true_eq_false, if_false]
      split
      · simp; omega
      · split
        · simp; omega
        · simp; omega
theorem is_mk {d : Doc} {i p : Nat} {l : Lin} (hl : d[i]? = some l) (hp : p ≤ l.cells.length) : isD d ⟨i, p⟩ = true := by
  rw [isD_at hl]
  simp
  omega
theorem span_mk {d : Doc} {i p j q : Nat} {l m : Lin} (hM : mayD d = true) (hl : d[i]? = some l) (hm : d[j]? = some m) (hp : p ≤ l.cells.length) (hq : q ≤ m.cells.length) (hij : i ≤ j) (hpq : i = j → p ≤ q) : spanD d ⟨i, p⟩ ⟨j, q⟩ = true := by
  unfold spanD
  rw [hM, is_mk hl hp, is_mk hm hq]
  simp only [Bool.and_true, Bool.true_and, decide_eq_true_eq, cmp_le]
  omega
/-- P7.4: of three places in order. -/
theorem cells_three {d : Doc} {a b c : Ps} (h1 : spanD d a b = true) (h2 : spanD d b c = true) : cellsD d a c = cellsD d a b ++ cellsD d b c ∧ spanD d a c = true := by
  obtain ⟨hM, i, j, p, q, l, m, rfl, rfl, hl, hm, hp, hq, hij, hpq⟩ := span_at h1
  obtain ⟨_, j', k, q', r, m', n, e, rfl, hm', hn, hq', hr, hjk, hqr⟩ := span_at h2
  obtain ⟨rfl, rfl⟩ : j = j' ∧ q = q' := by
    cases e
    exact ⟨by omega, by omega⟩
  have hik : i = k → p ≤ r := fun e => by
    have : i = j := by omega
    have := hpq this
    have := hqr (by omega)
    omega
  have h3 := span_mk hM hl hn hp hr (by omega) hik
  refine ⟨?_, h3⟩
  rw [cellsD_at h1, cellsD_at h2, cellsD_at h3]
  have g1 := cells_span hl hm hp hq hij hpq
  have g2 := cells_span hm hn hq hr hjk hqr
  have g3 := cells_span hl hn hp hr (by omega) hik
  rw [← g2, ← g1, List.append_assoc] at g3
  exact List.append_cancel_left g3
theorem cells_len {d : Doc} {i p j q : Nat} {l m : Lin} (hM : mayD d = true) (hl : d[i]? = some l) (hm : d[j]? = some m) (hp : p ≤ l.cells.length) (hq : q ≤ m.cells.length) (hij : i ≤ j) (hpq : i = j → p ≤ q) : offs d i p + (cellsD d ⟨i, p⟩ ⟨j, q⟩).length = offs d j q := by
  rw [cellsD_at (span_mk hM hl hm hp hq hij hpq)]
  have := congrArg List.length (cells_span hl hm hp hq hij hpq)
  rw [List.length_append, List.length_take, List.length_take, Nat.min_eq_left (offs_le hl hp), Nat.min_eq_left (offs_le hm hq)] at this
  exact this
theorem mayL_cells {l : Lin} {cs : List Cel} (h : mayL l = true) (hc : mayCs cs = true) : mayL { l with cells := cs } = true := by
  unfold mayL at h ⊢
  simp only [Bool.and_eq_true] at h ⊢
  exact ⟨h.1, hc⟩
theorem mayL_has {l : Lin} (h : mayL l = true) : mayCs l.cells = true := by
  unfold mayL at h
  simp only [Bool.and_eq_true] at h
  exact h.2
theorem mayCs_take {l : List Cel} (h : mayCs l = true) (n : Nat) : mayCs (l.take n) = true := by
  unfold mayCs at h ⊢
  rw [List.all_eq_true] at h ⊢
  exact fun x hx => h x (List.mem_of_mem_take hx)
theorem mayCs_drop {l : List Cel} (h : mayCs l = true) (n : Nat) : mayCs (l.drop n) = true := by
  unfold mayCs at h ⊢
  rw [List.all_eq_true] at h ⊢
  exact fun x hx => h x (List.mem_of_mem_drop hx)
theorem mayCs_append {l m : List Cel} (h : mayCs l = true) (k : mayCs m = true) : mayCs (l ++ m) = true := by
  unfold mayCs at h k ⊢
  rw [List.all_append, h, k]
  rfl
theorem mayD_iff {d : Doc} : mayD d = true ↔ 1 ≤ d.length ∧ d.length ≤ 200 ∧ (flat d).length ≤ 4000 ∧ ∀ l ∈ d, mayL l = true := by
  unfold mayD
  simp only [Bool.and_eq_true, decide_eq_true_eq, List.all_eq_true, flatc_len]
  exact ⟨fun ⟨⟨⟨a, b⟩, c⟩, e⟩ => ⟨a, b, c, e⟩, fun ⟨a, b, c, e⟩ => ⟨⟨⟨a, b⟩, c⟩, e⟩⟩
theorem flat_delete {d : Doc} {i p j q : Nat} {l m : Lin} (hl : d[i]? = some l) (hm : d[j]? = some m) (hp : p ≤ l.cells.length) (hq : q ≤ m.cells.length) :
    flat (deleteL d ⟨i, p⟩ ⟨j, q⟩) = (flat d).take (offs d i p) ++ (flat d).drop (offs d j q) := by
  rw [deleteL_at hl hm, flat_append, flat_append, flat_one, flat_take hl hp, flat_drop hm hq]
  simp
theorem offs_mono {d : Doc} {i p j q : Nat} {l m : Lin} (hl : d[i]? = some l) (hm : d[j]? = some m) (hp : p ≤ l.cells.length) (hij : i ≤ j) (hpq : i = j → p ≤ q) : offs d i p ≤ offs d j q := by
  unfold offs
  by_cases e : i = j
  · subst e
    have := hpq rfl
    omega
  · have h1 : (d.take j).take (i + 1) = d.take (i + 1) := by rw [List.take_take, Nat.min_eq_left (by omega)]
    have h2 : flat (d.take j) = flat (d.take (i + 1)) ++ flat ((d.take j).drop (i + 1)) := by rw [← h1, ← flat_append, List.take_append_drop]
    rw [h2, flat_next hl]
    simp only [List.length_append]
    omega
theorem mem_of_at {d : Doc} {i : Nat} {l : Lin} (h : d[i]? = some l) : l ∈ d := List.mem_of_getElem? h
theorem delete_may {d : Doc} {i p j q : Nat} {l m : Lin} (hM : mayD d = true) (hl : d[i]? = some l) (hm : d[j]? = some m) (hp : p ≤ l.cells.length) (hq : q ≤ m.cells.length) (hij : i ≤ j) (hpq : i = j → p ≤ q) :
    mayD (deleteL d ⟨i, p⟩ ⟨j, q⟩) = true := by
  obtain ⟨a1, a2, a3, a4⟩ := mayD_iff.1 hM
  have hj := (List.getElem?_eq_some_iff.1 hm).1
  have ho := offs_mono hl hm hp hij hpq
  refine mayD_iff.2 ⟨?_, ?_, ?_, fun x hx => ?_⟩
  · rw [deleteL_at hl hm]; simp; omega
  · rw [deleteL_at hl hm]
    simp only [List.length_append, List.length_take, List.length_drop, List.length_singleton]
    omega
  · rw [flat_delete hl hm hp hq, List.length_append, List.length_take, List.length_drop]
    omega
  · rw [deleteL_at hl hm] at hx
    simp only [List.mem_append, List.mem_singleton] at hx
    rcases hx with (hx | rfl) | hx
    · exact a4 x (List.mem_of_mem_take hx)
    · exact mayL_cells (a4 l (mem_of_at hl)) (mayCs_append (mayCs_take (mayL_has (a4 l (mem_of_at hl))) _) (mayCs_drop (mayL_has (a4 m (mem_of_at hm))) _))
    · exact a4 x (List.mem_of_mem_drop hx)
theorem delete_get {d : Doc} {i p j q : Nat} {l m : Lin} (hl : d[i]? = some l) (hm : d[j]? = some m) (k : Nat) :
    (deleteL d ⟨i, p⟩ ⟨j, q⟩)[k]? = if k < i then d[k]? else if k = i then some { l with cells := l.cells.take p ++ m.cells.drop q } else d[k - i + j]? := by
  have hi := (List.getElem?_eq_some_iff.1 hl).1
  rw [deleteL_at hl hm]
  by_cases h1 : k < i
  · rw [if_pos h1, List.append_assoc, List.getElem?_append_left (by simp; omega), List.getElem?_take, if_pos h1]
  · rw [if_neg h1]
    by_cases h2 : k = i
    · subst h2
      rw [if_pos rfl, List.append_assoc, List.getElem?_append_right (by simp; omega), List.length_take, Nat.min_eq_left (by omega), Nat.sub_self]
      rfl
    · rw [if_neg h2, List.getElem?_append_right (by simp; omega)]
      simp only [List.length_append, List.length_take, List.length_singleton, Nat.min_eq_left (Nat.le_of_lt hi)]
      rw [List.getElem?_drop]
      congr 1
      omega
/-- P7.5: what is deleted in two steps is what is deleted in one. -/
theorem delete_two {d : Doc} {a b c : Ps} (h1 : spanD d a b = true) (h2 : spanD d b c = true) : spanD (deleteL d b c) a b = true ∧ deleteL (deleteL d b c) a b = deleteL d a c := by
  obtain ⟨hM, i, j, p, q, l, m, rfl, rfl, hl, hm, hp, hq, hij, hpq⟩ := span_at h1
  obtain ⟨_, j', k, q', r, m', n, e, rfl, hm', hn, hq', hr, hjk, hqr⟩ := span_at h2
  obtain ⟨rfl, rfl⟩ : j = j' ∧ q = q' := by
    cases e
    exact ⟨by omega, by omega⟩
  have hj := (List.getElem?_eq_some_iff.1 hm).1
  have hi := (List.getElem?_eq_some_iff.1 hl).1
  have hb : (deleteL d ⟨j, q⟩ ⟨k, r⟩)[j]? = some { m with cells := m.cells.take q ++ n.cells.drop r } := by rw [delete_get hm hn, if_neg (Nat.lt_irrefl _), if_pos rfl]
  have hdr : (deleteL d ⟨j, q⟩ ⟨k, r⟩).drop (j + 1) = d.drop (k + 1) := by
    rw [deleteL_at hm hn, List.drop_append_of_le_length (by simp; omega), List.drop_eq_nil_of_le (by simp; omega), List.nil_append]
  have htk : (deleteL d ⟨j, q⟩ ⟨k, r⟩).take i = d.take i := by
    rw [deleteL_at hm hn, List.append_assoc, List.take_append_of_le_length (by simp; omega), List.take_take, Nat.min_eq_left hij]
  have hM2 := delete_may hM hm hn hq hr hjk hqr
  by_cases e : i = j
  · subst e
    obtain rfl : l = m := Option.some.inj (hl.symm.trans hm)
    have hpq' := hpq rfl
    refine ⟨span_mk hM2 hb hb (by simp; omega) (by simp; omega) (Nat.le_refl _) (fun _ => hpq'), ?_⟩
    rw [deleteL_at hb hb, htk, hdr, deleteL_at hl hn]
    congr 4
    simp only
    rw [List.take_append_of_le_length (by simp; omega), List.take_take, Nat.min_eq_left hpq']
    congr 1
    rw [List.drop_append_of_le_length (by simp; omega), List.drop_eq_nil_of_le (by simp; omega), List.nil_append]
  · have ha : (deleteL d ⟨j, q⟩ ⟨k, r⟩)[i]? = some l := by rw [delete_get hm hn, if_pos (by omega)]; exact hl
    refine ⟨span_mk hM2 ha hb hp (by simp; omega) hij (fun h => absurd h e), ?_⟩
    rw [deleteL_at ha hb, htk, hdr, deleteL_at hl hn]
    congr 4
    simp only
    rw [List.drop_append_of_le_length (by simp; omega), List.drop_eq_nil_of_le (by simp; omega), List.nil_append]
end Go.Proofs.Qw
namespace Go.Proofs.Qw
open Go.RowKit Go.Proofs.YtfoiaoopbkcpoaaGreatDoor
theorem set_at {d : Doc} {i : Nat} {l : Lin} (h : d[i]? = some l) (x : Lin) : d.set i x = d.take i ++ [x] ++ d.drop (i + 1) := by
  have hi := (List.getElem?_eq_some_iff.1 h).1
  rw [List.set_eq_take_append_cons_drop, if_pos hi, List.append_assoc, List.singleton_append]
theorem set_self {d : Doc} {i : Nat} {l : Lin} (h : d[i]? = some l) : d.take i ++ [l] ++ d.drop (i + 1) = d := (split_at h).symm
/-- P7.8: what was put in, and deleted. -/
theorem insert_back {d : Doc} {a : Ps} {more : List Cel} {x : Doc} {p : Ps} (h : insertD more d a = (x, p, 0)) : mayD x = true ∧ sizeD x = sizeD d + more.length ∧ deleteD x a p = (d, 0) := by
  unfold insertD at h
  split at h
  · rename_i hc
    rw [Bool.and_eq_true] at hc
    split at h
    · cases h
    · rename_i hsz
      obtain ⟨hM, i, j, q, q', l, m, rfl, e, hl, hm, hq, hq', _, _⟩ := span_at hc.1
      obtain ⟨a1, a2, a3, a4⟩ := mayD_iff.1 hM
      have hi := (List.getElem?_eq_some_iff.1 hl).1
      simp only [Prod.mk.injEq, Int.toNat_natCast, List.getD, hl, Option.getD_some] at h
      obtain ⟨rfl, rfl, _⟩ := h
      have hfl : flat (d.set i { l with cells := insertC l.cells q more }) = flat (d.take i) ++ (insertC l.cells q more ++ flat (d.drop (i + 1))) := by
        rw [set_at hl, flat_append, flat_append, flat_one, List.append_assoc]
      have hin : (insertC l.cells q more).length = l.cells.length + more.length := by
        unfold insertC
        simp only [List.length_append, List.length_take, List.length_drop]
        omega
      have hsize : sizeD (d.set i { l with cells := insertC l.cells q more }) = sizeD d + more.length := by
        rw [← flatc_len, ← flatc_len, hfl, flat_at hl]
        simp only [List.length_append, hin]
        omega
      have hmay : mayD (d.set i { l with cells := insertC l.cells q more }) = true := by
        refine mayD_iff.2 ⟨by rw [List.length_set]; exact a1, by rw [List.length_set]; exact a2, by rw [flatc_len, hsize]; omega, fun y hy => ?_⟩
        rcases List.mem_or_eq_of_mem_set hy with hy | rfl
        · exact a4 y hy
        · have hc1 := mayL_has (a4 l (mem_of_at hl))
          exact mayL_cells (a4 l (mem_of_at hl)) (mayCs_append (mayCs_append (mayCs_take hc1 _) hc.2) (mayCs_drop hc1 _))
      refine ⟨hmay, hsize, ?_⟩
      have hx : (d.set i { l with cells := insertC l.cells q more })[i]? = some { l with cells := insertC l.cells q more } := List.getElem?_set_self hi
      have hsp : spanD (d.set i { l with cells := insertC l.cells q more }) ⟨i, q⟩ ⟨i, ((q + more.length : Nat) : Int)⟩ = true := span_mk hmay hx hx (by simp only [hin]; omega) (by simp only [hin]; omega) (Nat.le_refl _) (fun _ => by omega)
      have hq2 : (q : Int) + (more.length : Int) = ((q + more.length : Nat) : Int) := by omega
      rw [hq2]
      unfold deleteD
      rw [if_pos hsp, deleteL_at hx hx]
      have e1 : (insertC l.cells q more).take q = l.cells.take q := by
        unfold insertC
        rw [List.append_assoc, List.take_append_of_le_length (by simp; omega), List.take_take, Nat.min_self]
      have e2 : (insertC l.cells q more).drop (q + more.length) = l.cells.drop q := by
        unfold insertC
        have hlen : (l.cells.take q ++ more).length = q + more.length := by simp; omega
        rw [List.drop_append_of_le_length (by omega), List.drop_eq_nil_of_le (by omega), List.nil_append]
      simp only [e1, e2, List.take_append_drop, Prod.mk.injEq, and_true]
      rw [List.take_set_of_le (Nat.le_refl _), List.drop_set_of_lt (by omega)]
      exact set_self hl
  · cases h
/-- P7.8: a line that was split, and joined. -/
theorem split_back {d : Doc} {a : Ps} {x : Doc} {p : Ps} (h : splitD d a = (x, p, 0)) : mayD x = true ∧ p = ⟨a.line + 1, 0⟩ ∧ deleteD x a p = (d, 0) := by
  unfold splitD at h
  split at h
  · rename_i hc
    split at h
    · cases h
    · rename_i h200
      obtain ⟨hM, i, j, q, q', l, m, rfl, e, hl, hm, hq, hq', _, _⟩ := span_at hc
      obtain ⟨a1, a2, a3, a4⟩ := mayD_iff.1 hM
      have hi := (List.getElem?_eq_some_iff.1 hl).1
      simp only [Prod.mk.injEq] at h
      obtain ⟨rfl, rfl, _⟩ := h
      have hxe : splitLD d ⟨i, q⟩ = d.take i ++ [(splitL l q).1, (splitL l q).2] ++ d.drop (i + 1) := by
        unfold splitLD
        simp [List.getD, hl]
      have hcs : (splitL l q).1.cells ++ (splitL l q).2.cells = l.cells := by
        unfold splitL
        by_cases hlq : l.cells.length ≤ q
        · rw [if_pos hlq, List.append_nil]; exact List.take_of_length_le hlq
        · rw [if_neg hlq]; exact List.take_append_drop _ _
      have hfl : flat (splitLD d ⟨i, q⟩) = flat d := by
        rw [hxe, flat_append, flat_append, flat_at hl, ← hcs]
        simp [flat]
      have hml := a4 l (mem_of_at hl)
      have hmay : mayD (splitLD d ⟨i, q⟩) = true := by
        refine mayD_iff.2 ⟨by rw [hxe]; simp; omega, by rw [hxe]; simp; omega, by rw [hfl]; exact a3, fun y hy => ?_⟩
        rw [hxe] at hy
        simp only [List.mem_append, List.mem_cons, List.not_mem_nil, or_false] at hy
        rcases hy with (hy | rfl | rfl) | hy
        · exact a4 y (List.mem_of_mem_take hy)
        · exact mayL_cells hml (mayCs_take (mayL_has hml) _)
        · unfold splitL
          by_cases hlq : l.cells.length ≤ q
          · rw [if_pos hlq]
            unfold mayL at hml ⊢
            simp only [Bool.and_eq_true, Bool.or_eq_true, decide_eq_true_eq] at hml ⊢
            obtain ⟨⟨⟨⟨⟨⟨⟨b1, b2⟩, b3⟩, b4⟩, b5⟩, b6⟩, b7⟩, b8⟩ := hml
            exact ⟨⟨⟨⟨⟨⟨⟨b1, b2⟩, b3⟩, Int.le_refl _⟩, by decide⟩, .inr trivial⟩, b7⟩, rfl⟩
          · rw [if_neg hlq]
            exact mayL_cells hml (mayCs_drop (mayL_has hml) _)
        · exact a4 y (List.mem_of_mem_drop hy)
      refine ⟨hmay, rfl, ?_⟩
      have hx1 : (splitLD d ⟨i, q⟩)[i]? = some (splitL l q).1 := by
        rw [hxe, List.append_assoc, List.getElem?_append_right (by simp; omega), List.length_take, Nat.min_eq_left (by omega), Nat.sub_self]
        rfl
      have hx2 : (splitLD d ⟨i, q⟩)[i + 1]? = some (splitL l q).2 := by
        rw [hxe, List.append_assoc, List.getElem?_append_right (by simp; omega), List.length_take, Nat.min_eq_left (by omega), show i + 1 - i = 1 by omega]
        rfl
      have hc1 : (splitL l q).1.cells = l.cells.take q := rfl
      have hq2 : (⟨(i : Int) + 1, 0⟩ : Ps) = ⟨((i + 1 : Nat) : Int), ((0 : Nat) : Int)⟩ := rfl
      have hsp : spanD (splitLD d ⟨i, q⟩) ⟨i, q⟩ ⟨((i + 1 : Nat) : Int), ((0 : Nat) : Int)⟩ = true := span_mk hmay hx1 hx2 (by rw [hc1]; simp; omega) (Nat.zero_le _) (by omega) (fun e => by omega)
      show deleteD _ _ ⟨(i : Int) + 1, 0⟩ = _
      rw [hq2]
      unfold deleteD
      rw [if_pos hsp, deleteL_at hx1 hx2, List.drop_zero, show (splitL l q).1.cells.take q = (splitL l q).1.cells by rw [hc1, List.take_take, Nat.min_self], hcs]
      have e1 : (splitLD d ⟨i, q⟩).take i = d.take i := by
        rw [hxe, List.append_assoc, List.take_append_of_le_length (by simp; omega), List.take_take, Nat.min_self]
      have e2 : (splitLD d ⟨i, q⟩).drop (i + 1 + 1) = d.drop (i + 1) := by
        rw [hxe, List.drop_append_of_le_length (by simp; omega), List.drop_eq_nil_of_le (by simp; omega), List.nil_append]
      rw [e1, e2]
      exact congrArg (·, 0) (set_self hl)
  · cases h
theorem part_length {d : Doc} {i p j q : Nat} (h : spanD d ⟨i, p⟩ ⟨j, q⟩ = true) : (partD d ⟨i, p⟩ ⟨j, q⟩).1.length = j + 1 - i := by
  unfold partD
  rw [if_pos h]
  simp [rowsTo]
theorem part_get {d : Doc} {i p j q k : Nat} {x : Lin} (h : spanD d ⟨i, p⟩ ⟨j, q⟩ = true) (hk : i + k ≤ j) (hx : d[i + k]? = some x) :
    (partD d ⟨i, p⟩ ⟨j, q⟩).1[k]? = some { x with cells := (x.cells.drop (if k = 0 then p else 0)).take ((if i + k = j then q else x.cells.length) - (if k = 0 then p else 0)) } := by
  unfold partD
  rw [if_pos h]
  simp only [Int.toNat_natCast, rowsTo, List.getElem?_map]
  rw [List.getElem?_range (by omega)]
  simp only [Option.map_some]
  rw [rowB_len d hx, partOf_at (by exact hx)]
  have : (i + k = i) = (k = 0) := by simp
  simp only [this]
theorem end_at {d : Doc} {n : Nat} {l : Lin} (hn : d.length = n + 1) (hl : d[n]? = some l) : endD d = ⟨n, l.cells.length⟩ := by
  unfold endD
  rw [if_neg (by intro e; rw [e] at hn; cases hn), hn]
  have : d.getLastD default = l := by
    rw [List.getLastD_eq_getLast?, List.getLast?_eq_getElem?, hn, Nat.add_sub_cancel, hl]
    rfl
  rw [this]
  simp
/-- P7.9: Delete leaves what stands ahead of the one place and behind the other, joined. -/
theorem delete_parts {d : Doc} {a b : Ps} (h : spanD d a b = true) : spanD d ⟨0, 0⟩ a = true ∧ spanD d b (endD d) = true ∧ mayD (deleteL d a b) = true ∧ sizeD (deleteL d a b) = sizeD d - (cellsD d a b).length ∧ (cellsD d a b).length ≤ sizeD d ∧
    (partD d ⟨0, 0⟩ a).1 ≠ [] ∧ (partD d b (endD d)).1 ≠ [] ∧
    (deleteL d a b).length + 1 = (partD d ⟨0, 0⟩ a).1.length + (partD d b (endD d)).1.length ∧
    ∀ k x, (deleteL d a b)[k]? = some x →
      (k + 1 < (partD d ⟨0, 0⟩ a).1.length → (partD d ⟨0, 0⟩ a).1[k]? = some x) ∧
      (k + 1 = (partD d ⟨0, 0⟩ a).1.length → ∃ u v, (partD d ⟨0, 0⟩ a).1[k]? = some u ∧ (partD d b (endD d)).1[0]? = some v ∧ x = { u with cells := u.cells ++ v.cells }) ∧
      ((partD d ⟨0, 0⟩ a).1.length ≤ k → (partD d b (endD d)).1[k + 1 - (partD d ⟨0, 0⟩ a).1.length]? = some x) := by
  obtain ⟨hM, i, j, p, q, l, m, rfl, rfl, hl, hm, hp, hq, hij, hpq⟩ := span_at h
  obtain ⟨a1, a2, a3, a4⟩ := mayD_iff.1 hM
  have hi := (List.getElem?_eq_some_iff.1 hl).1
  have hj := (List.getElem?_eq_some_iff.1 hm).1
  obtain ⟨n, hn⟩ : ∃ n, d.length = n + 1 := ⟨d.length - 1, by omega⟩
  obtain ⟨l0, hl0, _⟩ := getOf d 0 (by omega)
  obtain ⟨ln, hln, _⟩ := getOf d n (by omega)
  have hE := end_at hn hln
  have hs1 : spanD d ⟨((0 : Nat) : Int), ((0 : Nat) : Int)⟩ ⟨i, p⟩ = true := span_mk hM hl0 hl (Nat.zero_le _) hp (Nat.zero_le _) (fun _ => Nat.zero_le _)
  have hs2 : spanD d ⟨j, q⟩ ⟨n, ln.cells.length⟩ = true := span_mk hM hm hln hq (Nat.le_refl _) (by omega) (fun e => by subst e; rw [hln] at hm; cases hm; exact hq)
  have hlen1 : (partD d ⟨0, 0⟩ ⟨i, p⟩).1.length = i + 1 := part_length hs1
  have hlen2 : (partD d ⟨j, q⟩ ⟨n, ln.cells.length⟩).1.length = n + 1 - j := part_length hs2
  have hcl := cells_len hM hl hm hp hq hij hpq
  have ho := offs_le hm hq
  have hsz : (flat (deleteL d ⟨i, p⟩ ⟨j, q⟩)).length + (cellsD d ⟨i, p⟩ ⟨j, q⟩).length = (flat d).length := by
    rw [flat_delete hl hm hp hq, List.length_append, List.length_take, List.length_drop]
    omega
  rw [hE]
  refine ⟨hs1, hs2, delete_may hM hl hm hp hq hij hpq, by rw [← flatc_len, ← flatc_len]; omega, by rw [← flatc_len]; omega, by intro e; rw [e] at hlen1; simp at hlen1, by intro e; rw [e] at hlen2; simp at hlen2; omega, ?_, fun k x hx => ?_⟩
  · rw [hlen1, hlen2, deleteL_at hl hm]
    simp only [List.length_append, List.length_take, List.length_drop, List.length_singleton]
    omega
  · rw [delete_get hl hm] at hx
    rw [hlen1]
    refine ⟨fun hk => ?_, fun hk => ?_, fun hk => ?_⟩
    · rw [if_pos (by omega)] at hx
      have := part_get hs1 (k := k) (x := x) (by omega) (by rw [Nat.zero_add]; exact hx)
      refine this.trans ?_
      rw [if_neg (by omega)]
      simp
    · obtain rfl : k = i := by omega
      rw [if_neg (Nat.lt_irrefl _), if_pos rfl] at hx
      have g1 := part_get hs1 (k := k) (x := l) (by omega) (by rw [Nat.zero_add]; exact hl)
      have g2 := part_get hs2 (k := 0) (x := m) (by omega) (by rw [Nat.add_zero]; exact hm)
      refine ⟨_, _, g1, g2, ?_⟩
      cases hx
      simp only [Nat.zero_add, if_true, Nat.add_zero]
      have e1 : (l.cells.drop (if k = 0 then 0 else 0)).take (p - (if k = 0 then 0 else 0)) = l.cells.take p := by simp
      have e2 : (m.cells.drop q).take ((if j = n then ln.cells.length else m.cells.length) - q) = m.cells.drop q := by
        refine List.take_of_length_le ?_
        rw [List.length_drop]
        by_cases e : j = n
        · subst e
          rw [hln] at hm
          cases hm
          rw [if_pos rfl]
          omega
        · rw [if_neg e]
          omega
      rw [e1, e2]
    · rw [if_neg (by omega), if_neg (by omega)] at hx
      have hkn := (List.getElem?_eq_some_iff.1 hx).1
      have := part_get hs2 (k := k - i) (x := x) (by omega) (by rw [Nat.add_comm]; exact hx)
      rw [show k + 1 - (i + 1) = k - i by omega]
      refine this.trans ?_
      rw [if_neg (show ¬ k - i = 0 by omega)]
      have : (if j + (k - i) = n then ln.cells.length else x.cells.length) = x.cells.length := by
        by_cases e : j + (k - i) = n
        · rw [if_pos e]
          rw [← e, show j + (k - i) = k - i + j by omega, hx] at hln
          cases hln
          rfl
        · rw [if_neg e]
      rw [this]
      simp
end Go.Proofs.Qw
namespace Go.Proofs.Qw
open Go.RowKit Go.Proofs.YtfoiaoopbkcpoaaGreatDoor
/-- A line whose cells between two places are changed. -/
def lineF (F : Cel → Cel) (i p j q k : Nat) (l : Lin) : Lin := if i ≤ k ∧ k ≤ j then { l with cells := mapIn F (if k = i then p else 0) (if k = j then q else l.cells.length) l.cells } else l
theorem setRows_to {F : Cel → Cel} {d : Doc} {i p j q : Nat} (hj : j < d.length) : ∀ n k, k = i + n → k ≤ j + 1 → ∀ m : Nat, (setRows (fun cs i j => mapIn F i j cs) d (rowsTo d i p j q k))[m]? = (d[m]?).map fun l => if m < k then lineF F i p j q m l else l
  | 0, k, hk, _, m => by
    obtain rfl : k = i := hk
    rw [rowsTo_nil]
    show d[m]? = _
    cases hd : d[m]? with
    | none => rfl
    | some l =>
      simp only [Option.map_some, lineF]
      by_cases h : m < k
      · rw [if_pos h, if_neg (by omega)]
      · rw [if_neg h]
  | n + 1, k, hk, hkj, m => by
    subst hk
    obtain ⟨x, hx, _⟩ := getOf d (i + n) (by omega)
    obtain ⟨h1, h2⟩ := setRows_step (fun cs i j => mapIn F i j cs) (i := i) (p := p) (j := j) (q := q) (by omega) hx
    have ih := setRows_to (F := F) (d := d) (i := i) (p := p) (j := j) (q := q) hj n (i + n) rfl (by omega)
    rw [show i + (n + 1) = i + n + 1 from rfl, h2]
    by_cases e : i + n = m
    · subst e
      rw [List.getElem?_set_self (List.getElem?_eq_some_iff.1 h1).1, hx, rowB_len d hx]
      simp only [Option.map_some, lineF]
      rw [if_pos (show i + n < i + n + 1 by omega), if_pos (show i ≤ i + n ∧ i + n ≤ j by omega)]
    · rw [List.getElem?_set_ne e, ih m]
      cases hd : d[m]? with
      | none => rfl
      | some l =>
        simp only [Option.map_some]
        by_cases h : m < i + n
        · rw [if_pos h, if_pos (by omega)]
        · rw [if_neg h, if_neg (by omega)]
theorem setRows_get {F : Cel → Cel} {d : Doc} {i p j q : Nat} (hj : j < d.length) (hij : i ≤ j) (m : Nat) : (setRows (fun cs i j => mapIn F i j cs) d (rowsTo d i p j q (j + 1)))[m]? = (d[m]?).map (lineF F i p j q m) := by
  rw [setRows_to hj (j + 1 - i) (j + 1) (by omega) (Nat.le_refl _)]
  cases hd : d[m]? with
  | none => rfl
  | some l =>
    simp only [Option.map_some]
    by_cases h : m < j + 1
    · rw [if_pos h]
    · rw [if_neg h, lineF, if_neg (by omega)]
theorem lineF_frame (F : Cel → Cel) (i p j q k : Nat) (l : Lin) : { (lineF F i p j q k l) with cells := [] } = { l with cells := [] } := by
  unfold lineF
  split <;> rfl
theorem lineF_length (F : Cel → Cel) (i p j q k : Nat) (l : Lin) : (lineF F i p j q k l).cells.length = l.cells.length := by
  unfold lineF
  split
  · exact mapIn_length _ _ _ _
  · rfl
/-- A cell of it. -/
theorem lineF_cell (F : Cel → Cel) {i p j q k : Nat} {l : Lin} {c : Nat} {x : Cel} (hij : i ≤ j) (hx : l.cells[c]? = some x) :
    (lineF F i p j q k l).cells[c]? = some (if cmpP ⟨i, p⟩ ⟨k, c⟩ ≤ 0 ∧ cmpP ⟨k, c⟩ ⟨j, q⟩ < 0 then F x else x) := by
  have hc := (List.getElem?_eq_some_iff.1 hx).1
  have hlt : ∀ a b c e : Nat, cmpP ⟨a, b⟩ ⟨c, e⟩ < 0 ↔ a < c ∨ a = c ∧ b < e := by
    intro a b c e
    unfold cmpP cmpI
    simp only
    by_cases h : (a : Int) < c
    · simp [h]; omega
    · by_cases h2 : (c : Int) < a
      · simp [h, h2]; omega
      · simp only [h, h2, if_false]
        simp only [ne_eq, not_true_eq_false, if_false]
        split
        · simp; omega
        · split
          · simp; omega
          · simp; omega
  simp only [cmp_le, hlt]
  unfold lineF
  by_cases h : i ≤ k ∧ k ≤ j
  · rw [if_pos h]
    simp only
    rw [mapIn_get, hx]
    simp only [Option.map_some]
    have key : ((if k = i then p else 0) ≤ c ∧ c < (if k = j then q else l.cells.length)) ↔ ((i < k ∨ i = k ∧ p ≤ c) ∧ (k < j ∨ k = j ∧ c < q)) := by
      by_cases e1 : k = i
      · rw [if_pos e1]
        by_cases e2 : k = j
        · rw [if_pos e2]; omega
        · rw [if_neg e2]; omega
      · rw [if_neg e1]
        by_cases e2 : k = j
        · rw [if_pos e2]; omega
        · rw [if_neg e2]; omega
    by_cases g : (if k = i then p else 0) ≤ c ∧ c < (if k = j then q else l.cells.length)
    · rw [if_pos g, if_pos (key.1 g)]
    · rw [if_neg g, if_neg (fun e => g (key.2 e))]
  · rw [if_neg h, hx, if_neg (by omega)]
theorem mapIn_cut {F : Cel → Cel} {i k : Nat} {l : List Cel} : ((mapIn F i k l).drop i).take (k - i) = ((l.drop i).take (k - i)).map F := by
  apply List.ext_getElem?
  intro n
  simp only [List.getElem?_take, List.getElem?_drop, List.getElem?_map, mapIn_get]
  split
  · cases l[i + n]? with
    | none => rfl
    | some x => simp only [Option.map_some]; rw [if_pos (by omega)]
  · rfl
theorem mem_mapIn {F : Cel → Cel} {i k : Nat} {l : List Cel} {y : Cel} (h : y ∈ mapIn F i k l) : ∃ x ∈ l, y = x ∨ y = F x := by
  obtain ⟨n, hn⟩ := List.getElem?_of_mem h
  rw [mapIn_get] at hn
  cases hx : l[n]? with
  | none => rw [hx] at hn; cases hn
  | some x =>
    rw [hx] at hn
    simp only [Option.map_some, Option.some.injEq] at hn
    refine ⟨x, List.mem_of_getElem? hx, ?_⟩
    split at hn
    · exact .inr hn.symm
    · exact .inl hn.symm
/-- What is between two places behind a change: what was there, changed. -/
theorem cells_set {F : Cel → Cel} {d : Doc} {a b : Ps} (hF : ∀ c, mayC c = true → mayC (F c) = true) (h : spanD d a b = true) :
    mayD (setRows (fun cs i j => mapIn F i j cs) d (rowsTo d a.line.toNat a.col.toNat b.line.toNat b.col.toNat (b.line.toNat + 1))) = true ∧
    spanD (setRows (fun cs i j => mapIn F i j cs) d (rowsTo d a.line.toNat a.col.toNat b.line.toNat b.col.toNat (b.line.toNat + 1))) a b = true ∧
    cellsD (setRows (fun cs i j => mapIn F i j cs) d (rowsTo d a.line.toNat a.col.toNat b.line.toNat b.col.toNat (b.line.toNat + 1))) a b = (cellsD d a b).map F := by
  obtain ⟨hM, i, j, p, q, l, m, rfl, rfl, hl, hm, hp, hq, hij, hpq⟩ := span_at h
  obtain ⟨a1, a2, a3, a4⟩ := mayD_iff.1 hM
  have hi := (List.getElem?_eq_some_iff.1 hl).1
  have hj := (List.getElem?_eq_some_iff.1 hm).1
  simp only [Int.toNat_natCast]
  have hget := setRows_get (F := F) (p := p) (q := q) hj hij
  obtain ⟨D, hD⟩ : ∃ D, setRows (fun cs i j => mapIn F i j cs) d (rowsTo d i p j q (j + 1)) = D := ⟨_, rfl⟩
  rw [hD] at hget ⊢
  have hlen : D.length = d.length := by
    have h1 := hget d.length
    rw [List.getElem?_eq_none (Nat.le_refl _)] at h1
    have h2 : D.length ≤ d.length := List.getElem?_eq_none_iff.1 h1
    have h3 := hget D.length
    rw [List.getElem?_eq_none (Nat.le_refl _)] at h3
    have h4 : d[D.length]? = none := by
      cases hd : d[D.length]? with
      | none => rfl
      | some x => rw [hd] at h3; cases h3
    have := List.getElem?_eq_none_iff.1 h4
    omega
  have hmapl : D.map (·.cells.length) = d.map (·.cells.length) := by
    apply List.ext_getElem?
    intro n
    rw [List.getElem?_map, List.getElem?_map, hget]
    cases d[n]? with
    | none => rfl
    | some x => simp only [Option.map_some, lineF_length]
  have hsz : sizeD D = sizeD d := by unfold sizeD; rw [hmapl]
  have hmay : mayD D = true := by
    refine mayD_iff.2 ⟨by omega, by omega, by rw [flatc_len, hsz, ← flatc_len]; exact a3, fun y hy => ?_⟩
    obtain ⟨n, hn⟩ := List.getElem?_of_mem hy
    rw [hget] at hn
    cases hx : d[n]? with
    | none => rw [hx] at hn; cases hn
    | some x =>
      rw [hx] at hn
      simp only [Option.map_some, Option.some.injEq] at hn
      subst hn
      have hx4 := a4 x (mem_of_at hx)
      unfold lineF
      split
      · refine mayL_cells hx4 ?_
        unfold mayCs
        rw [List.all_eq_true]
        intro z hz
        have hcs := mayL_has hx4
        unfold mayCs at hcs
        rw [List.all_eq_true] at hcs
        obtain ⟨u, hu, e⟩ := mem_mapIn hz
        rcases e with rfl | rfl
        · exact hcs _ hu
        · exact hF _ (hcs _ hu)
      · exact hx4
  have hDl := hget i
  have hDm := hget j
  rw [hl] at hDl
  rw [hm] at hDm
  simp only [Option.map_some] at hDl hDm
  have hsp : spanD D ⟨i, p⟩ ⟨j, q⟩ = true := span_mk hmay hDl hDm (by rw [lineF_length]; exact hp) (by rw [lineF_length]; exact hq) hij hpq
  refine ⟨hmay, hsp, ?_⟩
  rw [cellsD_at hsp, cellsD_at h]
  have hto : ∀ n k, k = i + n → k ≤ j + 1 → cellsL D (rowsTo D i p j q k) = (cellsL d (rowsTo d i p j q k)).map F := by
    intro n
    induction n with
    | zero =>
      intro k hk _
      obtain rfl : k = i := hk
      rw [rowsTo_nil, rowsTo_nil]
      rfl
    | succ n ih =>
      intro k hk hkj
      subst hk
      obtain ⟨x, hx, _⟩ := getOf d (i + n) (by omega)
      have hy := hget (i + n)
      rw [hx] at hy
      simp only [Option.map_some] at hy
      rw [show i + (n + 1) = i + n + 1 from rfl, rowsTo_step D (by omega), rowsTo_step d (by omega), cellsL_snoc, cellsL_snoc, List.map_append, ih (i + n) rfl (by omega), rowB_len D hy, rowB_len d hx, cellsB_at (by exact hy), cellsB_at (by exact hx)]
      congr 1
      simp only [lineF_length]
      have : (lineF F i p j q (i + n) x).cells = mapIn F (if i + n = i then p else 0) (if i + n = j then q else x.cells.length) x.cells := by
        unfold lineF
        rw [if_pos ⟨by omega, by omega⟩]
      rw [this]
      exact mapIn_cut
  exact hto (j + 1 - i) (j + 1) (by omega) (Nat.le_refl _)
/- Bits of a style, told in Fin 16. -/
theorem bits_fin (x s c : Int) (hx : 0 ≤ x ∧ x ≤ 15) (hs : 0 ≤ s ∧ s ≤ 15) (hc : 0 ≤ c ∧ c ≤ 15) :
    bits .and .i64 s 15 = s ∧ (0 ≤ bits .or .i64 (bits .andNot .i64 x c) s ∧ bits .or .i64 (bits .andNot .i64 x c) s ≤ 15) ∧ bits .and .i64 (bits .or .i64 (bits .andNot .i64 x c) s) s = s ∧ bits .and .i64 (bits .or .i64 (bits .andNot .i64 x c) s) (bits .andNot .i64 c s) = 0 := by
  obtain ⟨x, rfl⟩ := Int.eq_ofNat_of_zero_le hx.1
  obtain ⟨s, rfl⟩ := Int.eq_ofNat_of_zero_le hs.1
  obtain ⟨c, rfl⟩ := Int.eq_ofNat_of_zero_le hc.1
  have H : ∀ x s c : Fin 16, bits .and .i64 (s.val : Int) 15 = s.val ∧ (0 ≤ bits .or .i64 (bits .andNot .i64 (x.val : Int) c.val) s.val ∧ bits .or .i64 (bits .andNot .i64 (x.val : Int) c.val) s.val ≤ 15) ∧ bits .and .i64 (bits .or .i64 (bits .andNot .i64 (x.val : Int) c.val) s.val) s.val = s.val ∧ bits .and .i64 (bits .or .i64 (bits .andNot .i64 (x.val : Int) c.val) s.val) (bits .andNot .i64 (c.val : Int) s.val) = 0 := by decide +kernel
  exact H ⟨x, by omega⟩ ⟨s, by omega⟩ ⟨c, by omega⟩
theorem bits_mask (n : Int) : 0 ≤ bits .and .i64 n 15 ∧ bits .and .i64 n 15 ≤ 15 := by
  unfold bits
  have h : (BitVec.ofInt IntKind.i64.bits n &&& BitVec.ofInt IntKind.i64.bits 15).toNat ≤ 15 := by
    rw [BitVec.toNat_and]
    exact Nat.le_trans Nat.and_le_right (by decide)
  simp only
  generalize (BitVec.ofInt IntKind.i64.bits n &&& BitVec.ofInt IntKind.i64.bits 15).toNat = m at h
  have H : ∀ m : Fin 16, 0 ≤ IntKind.i64.wrap (m.val : Int) ∧ IntKind.i64.wrap (m.val : Int) ≤ 15 := by decide +kernel
  exact H ⟨m, by omega⟩
end Go.Proofs.Qw
