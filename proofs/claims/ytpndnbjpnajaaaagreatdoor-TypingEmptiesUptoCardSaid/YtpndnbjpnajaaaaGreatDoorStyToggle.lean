/- Typing: whatever a key does to a state that may be, may be. -/
import Derived.Test.YtpndnbjpnajaaaaGreatDoorStyStays
import Derived.Test.YtpndnbjpnajaaaaGreatDoorRefTarget
import Derived.Test.YtpndnbjpnajaaaaGreatDoorAttrWalk
import Derived.Test.YtpndnbjpnajaaaaGreatDoorRefPart
import Derived.Lib.OthersKept
import Derived.Lib.RuneCount
import Derived.Test.YtpndnbjpnajaaaaGreatDoorCellsInsert
set_option linter.unusedVariables false
set_option linter.unusedSimpArgs false
namespace Go.Proofs.Qw
open Go.RowKit Go.Proofs.YtpndnbjpnajaaaaGreatDoor
def KeyOk (x : St × Int) : Prop := (x.2 = 0 ∧ ∃ d p, x.1 = closedS d p ∧ mayD d = true ∧ isD d p = true) ∨ (x.1 = noS ∧ (x.2 = 7 ∨ x.2 = 10))
theorem closed_may {d : Doc} {p : Ps} (h : mayD d = true) (hp : isD d p = true) : mayS (closedS d p) = true := by
  unfold mayS closedS
  simp only [h, hp, Bool.true_and]
  decide
theorem key_ok {d : Doc} {p : Ps} (h : mayD d = true) (hp : isD d p = true) : KeyOk (closedS d p, 0) := .inl ⟨rfl, d, p, rfl, h, hp⟩
theorem key_off {e : Int} (h : e = 7 ∨ e = 10) : KeyOk (noS, e) := .inr ⟨rfl, h⟩
theorem clean_may (t : ByteArray) : ∀ c ∈ cleanB t, (mayR c || decide (c = 10)) = true := by
  intro c hc
  unfold cleanB at hc
  obtain ⟨x, hx, he⟩ := List.mem_filterMap.1 hc
  have h0 := classF_runes t x hx
  have h1 := classF_ge x
  unfold cleanR at he
  split at he
  · cases he
    rw [Bool.or_eq_true]
    exact .inl (by unfold mayR; rw [classF_32]; rfl)
  · split at he
    · cases he; rw [Bool.or_eq_true]; exact .inr rfl
    · split at he
      · cases he
      · cases he
        rw [Bool.or_eq_true]
        exact .inl (by unfold mayR; rw [decide_eq_true_eq]; omega)
theorem cellsOf_may {t : ByteArray} {b : Int} {h : List UInt8} (hb : 0 ≤ b ∧ b ≤ 15) (hh : linkF h = true) : mayCs (cellsOf (cleanB t) b h) = true := by
  unfold mayCs cellsOf
  rw [List.all_eq_true]
  intro x hx
  obtain ⟨c, hc, rfl⟩ := List.mem_map.1 hx
  unfold mayC
  simp only [clean_may t c hc, hb.1, hb.2, hh, decide_true, Bool.and_self]
theorem around_link {l : List Cel} (h : mayCs l = true) {k : Nat}  : linkF (aroundF l k).2 = true := by
  unfold aroundF
  simp only
  split
  · rename_i h1
    have hm : (l.getD (k - 1) default) ∈ l := by
      rw [List.getD_eq_getElem?_getD, List.getElem?_eq_getElem (show k - 1 < l.length by omega)]
      exact List.getElem_mem _
    have := List.all_eq_true.1 h _ hm
    unfold mayC at this
    simp only [Bool.and_eq_true] at this
    exact this.2
  · rfl
theorem may_at {d : Doc} {p : Ps} (h : mayD d = true) (hp : isD d p = true) : ∃ (i j : Nat) (l : Lin), p = ⟨i, j⟩ ∧ d[i]? = some l ∧ j ≤ l.cells.length ∧ mayL l = true ∧ lineAt d p = l := by
  obtain ⟨i, j, l, rfl, hl, hj⟩ := isD_nat hp
  exact ⟨i, j, l, rfl, hl, hj, (mayD_iff.1 h).2.2.2 l (mem_of_at hl), lineAt_eq hl _⟩
theorem or_rng (x off on : Int) (hx : 0 ≤ x ∧ x ≤ 15) (hf : 0 ≤ off ∧ off ≤ 15) (ho : 0 ≤ on ∧ on ≤ 15) : 0 ≤ bits .or .i64 (bits .andNot .i64 x off) on ∧ bits .or .i64 (bits .andNot .i64 x off) on ≤ 15 := by
  obtain ⟨on, rfl⟩ := Int.eq_ofNat_of_zero_le ho.1
  obtain ⟨off, rfl⟩ := Int.eq_ofNat_of_zero_le hf.1
  obtain ⟨x, rfl⟩ := Int.eq_ofNat_of_zero_le hx.1
  have H : ∀ x off on : Fin 16, 0 ≤ bits .or .i64 (bits .andNot .i64 (x.val : Int) (off.val : Int)) (on.val : Int) ∧ bits .or .i64 (bits .andNot .i64 (x.val : Int) (off.val : Int)) (on.val : Int) ≤ 15 := by decide +kernel
  exact H ⟨x, by omega⟩ ⟨off, by omega⟩ ⟨on, by omega⟩
theorem typB_rng {s : St} (h : mayS s = true) (hr : RngS s) : 0 ≤ typB s ∧ typB s ≤ 15 := by
  obtain ⟨_, hsp, _, _, hi⟩ := out_facts h
  have hM := (mayS_at h).1
  refine or_rng _ _ _ ?_ hr.2 hr.1
  cases hc : cellsD s.lines (spanS s).1 (spanS s).2 with
  | nil =>
    obtain ⟨i, j, l, hp, hl, hj, hml, he⟩ := may_at hM hi
    unfold headB
    simp only
    rw [he, hp]
    exact around_rng (mayL_has hml) (by simpa using hj)
  | cons c l => exact cells_bits hM c (by rw [hc]; exact List.mem_cons_self)
theorem span_is {d : Doc} {a b : Ps} (h : spanD d a b = true) : isD d a = true ∧ isD d b = true := by
  unfold spanD at h
  simp only [Bool.and_eq_true] at h
  exact ⟨h.1.1.2, h.1.2⟩
theorem deleteD_ok {d e : Doc} {a b : Ps} (h : deleteD d a b = (e, 0)) : spanD d a b = true := by
  unfold deleteD at h
  split at h
  · assumption
  · cases h
theorem end_ok {x : Doc × Ps × Int} (h : (x.2.2 = 0 ∧ mayD x.1 = true ∧ isD x.1 x.2.1 = true) ∨ x.2.2 = 7 ∨ x.2.2 = 10) : KeyOk (endS x) := by
  unfold endS
  rcases h with ⟨h0, h1, h2⟩ | h
  · rw [if_pos h0]; exact key_ok h1 h2
  · rw [if_neg (by omega)]; exact key_off h
theorem insert_ok {d : Doc} {p : Ps} {more : List Cel} (h : mayD d = true) (hp : isD d p = true) (hm : mayCs more = true) : ((insertD more d p).2.2 = 0 ∧ mayD (insertD more d p).1 = true ∧ isD (insertD more d p).1 (insertD more d p).2.1 = true) ∨ (insertD more d p).2.2 = 7 ∨ (insertD more d p).2.2 = 10 := by
  by_cases h0 : (insertD more d p).2.2 = 0
  · obtain ⟨h1, _, h2⟩ := insert_back (more := more) (d := d) (a := p) (x := (insertD more d p).1) (p := (insertD more d p).2.1) (by rw [← h0])
    exact .inl ⟨h0, h1, (span_is (deleteD_ok h2)).2⟩
  · refine .inr (.inr ?_)
    unfold insertD at h0 ⊢
    rw [if_pos (by rw [span_self h hp, hm]; rfl)] at h0 ⊢
    split
    · rfl
    · rename_i h3
      rw [if_neg h3] at h0
      exact absurd rfl h0
theorem split_ok {d : Doc} {p : Ps} (h : mayD d = true) (hp : isD d p = true) : ((splitD d p).2.2 = 0 ∧ mayD (splitD d p).1 = true ∧ isD (splitD d p).1 (splitD d p).2.1 = true) ∨ (splitD d p).2.2 = 7 ∨ (splitD d p).2.2 = 10 := by
  by_cases h0 : (splitD d p).2.2 = 0
  · obtain ⟨h1, _, h2⟩ := split_back (d := d) (a := p) (x := (splitD d p).1) (p := (splitD d p).2.1) (by rw [← h0])
    exact .inl ⟨h0, h1, (span_is (deleteD_ok h2)).2⟩
  · refine .inr (.inr ?_)
    unfold splitD at h0 ⊢
    rw [if_pos (span_self h hp)] at h0 ⊢
    split
    · rfl
    · rename_i h3
      rw [if_neg h3] at h0
      exact absurd rfl h0
theorem mayL_mk {l : Lin} (h1 : 0 ≤ l.quote) (h2 : l.quote ≤ 6) (h3 : l.lists.length ≤ 6) (h4 : 0 ≤ l.kind) (h5 : l.kind ≤ 3) (h6 : l.lists = [] ∨ l.kind = 0) (h7 : ∀ k ∈ l.lists, k = 0 ∨ k = 1) (h8 : mayCs l.cells = true) : mayL l = true := by
  unfold mayL
  simp only [Bool.and_eq_true, Bool.or_eq_true, decide_eq_true_eq, List.all_eq_true]
  exact ⟨⟨⟨⟨⟨⟨⟨h1, h2⟩, h3⟩, h4⟩, h5⟩, h6⟩, h7⟩, h8⟩
theorem mayL_parts {l : Lin} (h : mayL l = true) : 0 ≤ l.quote ∧ l.quote ≤ 6 ∧ l.lists.length ≤ 6 ∧ 0 ≤ l.kind ∧ l.kind ≤ 3 ∧ (l.lists = [] ∨ l.kind = 0) ∧ (∀ k ∈ l.lists, k = 0 ∨ k = 1) ∧ mayCs l.cells = true := by
  unfold mayL at h
  simp only [Bool.and_eq_true, Bool.or_eq_true, decide_eq_true_eq, List.all_eq_true] at h
  obtain ⟨⟨⟨⟨⟨⟨⟨h1, h2⟩, h3⟩, h4⟩, h5⟩, h6⟩, h7⟩, h8⟩ := h
  exact ⟨h1, h2, h3, h4, h5, h6, h7, h8⟩
theorem outdent_ok {l l' : Lin} (h : mayL l = true) (he : outdentL l = some l') : mayL l' = true ∧ l'.cells = l.cells := by
  obtain ⟨h1, h2, h3, h4, h5, h6, h7, h8⟩ := mayL_parts h
  unfold outdentL at he
  split at he
  · rename_i hne
    cases he
    exact ⟨mayL_mk h1 h2 (by simp only [List.length_dropLast]; omega) h4 h5 (.inr (h6.resolve_left hne)) (fun k hk => h7 k (List.dropLast_subset _ hk)) h8, rfl⟩
  · split at he
    · cases he
      exact ⟨mayL_mk (by simp only; omega) (by simp only; omega) h3 h4 h5 h6 h7 h8, rfl⟩
    · cases he
theorem free_ok {l l' : Lin} (h : mayL l = true) (he : freeL l = some l') : mayL l' = true ∧ l'.cells = l.cells := by
  obtain ⟨h1, h2, h3, h4, h5, h6, h7, h8⟩ := mayL_parts h
  unfold freeL at he
  split at he
  · rename_i hne
    cases he
    exact ⟨mayL_mk h1 h2 (by simp only [List.length_dropLast]; omega) h4 h5 (.inr (h6.resolve_left hne)) (fun k hk => h7 k (List.dropLast_subset _ hk)) h8, rfl⟩
  · split at he
    · cases he
      exact ⟨mayL_mk h1 h2 h3 (Int.le_refl 0) (show (0 : Int) ≤ 3 by decide) (.inr rfl) h7 h8, rfl⟩
    · split at he
      · cases he
        exact ⟨mayL_mk (by simp only; omega) (by simp only; omega) h3 h4 h5 h6 h7 h8, rfl⟩
      · cases he
theorem set_may {d : Doc} {i : Nat} {l l' : Lin} (hM : mayD d = true) (hl : d[i]? = some l) (h : mayL l' = true) (hc : l'.cells = l.cells) : mayD (d.set i l') = true ∧ ∀ j : Nat, j ≤ l.cells.length → isD (d.set i l') ⟨i, j⟩ = true := by
  obtain ⟨a1, a2, a3, a4⟩ := mayD_iff.1 hM
  have hi := (List.getElem?_eq_some_iff.1 hl).1
  refine ⟨mayD_iff.2 ⟨by simpa using a1, by simpa using a2, ?_, fun x hx => ?_⟩, fun j hj => is_mk (l := l') (by rw [List.getElem?_set_self hi]) (by rw [hc]; exact hj)⟩
  · rw [set_at hl, flat_append, flat_append, flat_one, hc, ← flat_one l, ← flat_append, ← flat_append, set_self hl]
    exact a3
  · rcases List.mem_or_eq_of_mem_set hx with hx | rfl
    · exact a4 x hx
    · exact h
theorem put_ok {d : Doc} {p : Ps} {r : Option Lin} {x : Doc × Ps × Int} (hM : mayD d = true) (hp : isD d p = true) (hr : ∀ l', r = some l' → mayL l' = true ∧ l'.cells = (lineAt d p).cells)
    (hx : (x.2.2 = 0 ∧ mayD x.1 = true ∧ isD x.1 x.2.1 = true) ∨ x.2.2 = 7 ∨ x.2.2 = 10) : ((putK d p r x).2.2 = 0 ∧ mayD (putK d p r x).1 = true ∧ isD (putK d p r x).1 (putK d p r x).2.1 = true) ∨ (putK d p r x).2.2 = 7 ∨ (putK d p r x).2.2 = 10 := by
  cases r with
  | none => exact hx
  | some l' =>
    obtain ⟨i, j, l, rfl, hl, hj, hml, he⟩ := may_at hM hp
    obtain ⟨h1, h2⟩ := hr l' rfl
    rw [he] at h2
    obtain ⟨k1, k2⟩ := set_may hM hl h1 h2
    exact .inl ⟨rfl, by simpa [putK] using k1, by simpa [putK] using k2 j hj⟩
theorem cut_ok {d : Doc} {a b p : Ps} (h : spanD d a b = true) (hp : p = a) : ((cutK d a b p).2.2 = 0 ∧ mayD (cutK d a b p).1 = true ∧ isD (cutK d a b p).1 (cutK d a b p).2.1 = true) ∨ (cutK d a b p).2.2 = 7 ∨ (cutK d a b p).2.2 = 10 := by
  subst hp
  obtain ⟨hM, i, j, x, y, l, m, rfl, rfl, hl, hm, hp, hq, hij, hpq⟩ := span_at h
  unfold cutK deleteD
  rw [if_pos h]
  exact .inl ⟨rfl, delete_may hM hl hm hp hq hij hpq, is_mk (d := deleteL d ⟨i, x⟩ ⟨j, y⟩) (l := { l with cells := l.cells.take x ++ m.cells.drop y }) (by rw [delete_get hl hm, if_neg (Nat.lt_irrefl _), if_pos rfl]) (by simp; omega)⟩
theorem erase_ok {s : St} (h : mayS s = true) : KeyOk (keyS s (eraseK s)) := by
  obtain ⟨h1, _, h3, _, _⟩ := out_facts h
  rw [erase_law h]
  split
  · exact key_off (.inl rfl)
  · exact key_ok h1 h3
theorem text_ok {s : St} (h : mayS s = true) (hr : RngS s) (t : ByteArray) : KeyOk (keyS s (textK s t)) := by
  obtain ⟨h1, _, h3, _, _⟩ := out_facts h
  rw [text_law h]
  split
  · exact key_off (.inr rfl)
  · split
    · exact key_off (.inl rfl)
    · obtain ⟨i, j, l, hp, hl, hj, hml, he⟩ := may_at h1 h3
      refine end_ok (insert_ok h1 h3 (cellsOf_may (typB_rng h hr) ?_))
      rw [he, hp]
      exact around_link (mayL_has hml)
theorem para_ok {s : St} (h : mayS s = true) : KeyOk (keyS s (paraK s)) := by
  obtain ⟨h1, _, h3, _, _⟩ := out_facts h
  rw [key_may h]
  refine end_ok (put_ok h1 h3 (fun l' hl' => ?_) (split_ok h1 h3))
  obtain ⟨i, j, l, hp, hl, hj, hml, he⟩ := may_at h1 h3
  split at hl'
  · rw [he] at hl' ⊢
    exact outdent_ok hml hl'
  · cases hl'
theorem step_span {d : Doc} {p : Ps} (hM : mayD d = true) (hp : isD d p = true) : ((stepD d p (-1)).2 = true → spanD d (stepD d p (-1)).1 p = true) ∧ ((stepD d p 1).2 = true → spanD d p (stepD d p 1).1 = true) := by
  obtain ⟨i, j, l, rfl, hl, hj, _, _⟩ := may_at hM hp
  have hi := (List.getElem?_eq_some_iff.1 hl).1
  constructor
  · intro h
    rw [step_back hl hj] at h ⊢
    by_cases h0 : 0 < j
    · rw [if_pos h0, show ((j : Int) - 1) = ((j - 1 : Nat) : Int) by omega]
      exact span_mk hM hl hl (by omega) hj (Nat.le_refl _) (fun _ => by omega)
    · rw [if_neg h0] at h ⊢
      by_cases h1 : i = 0
      · rw [if_pos h1] at h; cases h
      · rw [if_neg h1]
        obtain ⟨n, rfl⟩ : ∃ n, i = n + 1 := ⟨i - 1, by omega⟩
        obtain ⟨m, hm⟩ : ∃ m, d[n]? = some m := ⟨d[n]'(by omega), List.getElem?_eq_getElem (by omega)⟩
        simp only [Nat.add_sub_cancel, lineAt_eq hm]
        rw [show (((n + 1 : Nat) : Int) - 1) = (n : Int) by omega]
        exact span_mk hM hm hl (Nat.le_refl _) hj (by omega) (fun e => by omega)
  · intro h
    rw [step_forth hl hj] at h ⊢
    by_cases h0 : j < l.cells.length
    · rw [if_pos h0, show ((j : Int) + 1) = ((j + 1 : Nat) : Int) by omega]
      exact span_mk hM hl hl hj (by omega) (Nat.le_refl _) (fun _ => by omega)
    · rw [if_neg h0] at h ⊢
      by_cases h1 : i + 1 < d.length
      · rw [if_pos h1]
        obtain ⟨m, hm⟩ : ∃ m, d[i + 1]? = some m := ⟨d[i + 1]'h1, List.getElem?_eq_getElem h1⟩
        rw [show ((i : Int) + 1) = ((i + 1 : Nat) : Int) by omega]
        exact span_mk hM hl hm hj (Nat.zero_le _) (by omega) (fun e => by omega)
      · rw [if_neg h1] at h; cases h
theorem back_ok {s : St} (h : mayS s = true) : KeyOk (keyS s (backK s)) := by
  obtain ⟨h1, _, h3, _, _⟩ := out_facts h
  rw [key_may h]
  unfold backK
  split
  · refine end_ok (put_ok h1 h3 (fun l' hl' => ?_) ?_)
    · obtain ⟨i, j, l, hp, hl, hj, hml, he⟩ := may_at h1 h3
      split at hl'
      · rw [he] at hl' ⊢
        exact free_ok hml hl'
      · cases hl'
    · split
      · rename_i h5
        exact cut_ok ((step_span h1 h3).1 h5) rfl
      · exact .inr (.inl rfl)
  · exact end_ok (.inl ⟨rfl, h1, h3⟩)
theorem forth_ok {s : St} (h : mayS s = true) : KeyOk (keyS s (forthK s)) := by
  obtain ⟨h1, _, h3, _, _⟩ := out_facts h
  rw [key_may h]
  unfold forthK
  split
  · refine end_ok ?_
    split
    · rename_i h5
      exact cut_ok ((step_span h1 h3).2 h5) rfl
    · exact .inr (.inl rfl)
  · exact end_ok (.inl ⟨rfl, h1, h3⟩)
end Go.Proofs.Qw
namespace Go.Proofs.Qw
open Go.RowKit Go.Proofs.YtpndnbjpnajaaaaGreatDoor
theorem drop_all {α : Type} (l : List α) {n : Nat} (h : l.length ≤ n) : l.drop n = [] := List.drop_eq_nil_of_le h
def insK (d : Doc) (i q : Nat) (l : Lin) (cs : List Cel) : St := closedS (d.set i { l with cells := insertC l.cells q cs }) ⟨i, ((q + cs.length : Nat) : Int)⟩
theorem set_same {d : Doc} {i : Nat} {l : Lin} (hl : d[i]? = some l) : d.set i l = d := by rw [set_at hl]; exact set_self hl
theorem insK_nil {d : Doc} {i q : Nat} {l : Lin} (hl : d[i]? = some l) : insK d i q l [] = closedS d ⟨i, q⟩ := by
  have : ({ l with cells := insertC l.cells q [] } : Lin) = l := by unfold insertC; simp
  unfold insK
  rw [this, set_same hl]
  rfl
theorem text_ins {s u : St} {t : ByteArray} (h : mayS s = true) (hc : s.anc = s.foc) (he : keyS s (textK s t) = (u, 0)) :
    ∃ (i q : Nat) (l : Lin), s.foc = ⟨i, q⟩ ∧ s.lines[i]? = some l ∧ q ≤ l.cells.length ∧ cleanB t ≠ [] ∧ u = insK s.lines i q l (cellsOf (cleanB t) (typB s) (aroundF l.cells q).2) ∧ mayD u.lines = true := by
  obtain ⟨ho, hp, hi⟩ := out_closed h hc
  obtain ⟨i, q, l, hf, hl, hq, hml, hla⟩ := may_at (mayS_at h).1 hi
  rw [text_law h] at he
  split at he
  · cases he
  · split at he
    · cases he
    · rename_i hne
      rw [ho, hp, hf, lineAt_eq hl] at he
      simp only [Int.toNat_natCast] at he
      obtain ⟨X, p, e, hX⟩ : ∃ X p e, insertD (cellsOf (cleanB t) (typB s) (aroundF l.cells q).2) s.lines ⟨i, q⟩ = (X, p, e) := ⟨_, _, _, rfl⟩
      rw [hX] at he
      unfold endS at he
      simp only at he
      split at he
      · rename_i h0
        subst h0
        have hM := (insert_back hX).1
        unfold insertD at hX
        split at hX
        · split at hX
          · cases hX
          · simp only [Int.toNat_natCast, Prod.mk.injEq, List.getD_eq_getElem?_getD, hl, Option.getD_some] at hX
            obtain ⟨rfl, rfl, _⟩ := hX
            cases he
            refine ⟨i, q, l, hf, hl, hq, hne, rfl, hM⟩
        · cases hX
      · rename_i h0
        exact absurd (congrArg Prod.snd he) h0
theorem insertC_length (cs : List Cel) (q : Nat) (more : List Cel) (h : q ≤ cs.length) : (insertC cs q more).length = cs.length + more.length := by
  unfold insertC
  simp only [List.length_append, List.length_take, List.length_drop]
  omega
theorem insertC_cut {cs more : List Cel} {q k : Nat} (hq : q ≤ cs.length) (hk : k < more.length) :
    (insertC cs q (more.take (k + 1))).take (q + k) ++ (insertC cs q (more.take (k + 1))).drop (q + k + 1) = insertC cs q (more.take k) := by
  have hl1 : (cs.take q).length = q := by rw [List.length_take]; omega
  have hl2 : (more.take (k + 1)).length = k + 1 := by rw [List.length_take]; omega
  unfold insertC
  rw [List.append_assoc, List.take_append, hl1, List.take_of_length_le (by omega), List.drop_append, hl1, drop_all (cs.take q) (by omega), List.nil_append,
    Nat.add_sub_cancel_left, List.take_append_of_le_length (by omega), List.take_take, Nat.min_eq_left (by omega), show q + k + 1 - q = k + 1 by omega, List.drop_append, hl2, drop_all (more.take (k + 1)) (by omega), List.nil_append, Nat.sub_self, List.drop_zero]
theorem ins_back {d : Doc} {i q k : Nat} {l : Lin} {cs : List Cel} (hl : d[i]? = some l) (hq : q ≤ l.cells.length) (hk : k < cs.length) (hM : mayS (insK d i q l (cs.take (k + 1))) = true) :
    keyS (insK d i q l (cs.take (k + 1))) (backK (insK d i q l (cs.take (k + 1)))) = (insK d i q l (cs.take k), 0) := by
  have hi := (List.getElem?_eq_some_iff.1 hl).1
  have hlen : (cs.take (k + 1)).length = k + 1 := by rw [List.length_take]; omega
  have hlk : (cs.take k).length = k := by rw [List.length_take]; omega
  have hx : (d.set i { l with cells := insertC l.cells q (cs.take (k + 1)) })[i]? = some { l with cells := insertC l.cells q (cs.take (k + 1)) } := List.getElem?_set_self hi
  have hcl := insertC_length l.cells q (cs.take (k + 1)) hq
  rw [back_law (i := i) (j := q + (k + 1)) (l := { l with cells := insertC l.cells q (cs.take (k + 1)) }) hM rfl (by unfold insK closedS; rw [hlen]) hx (by simp only; omega)]
  rw [if_pos (by omega)]
  unfold insK
  simp only [closedS, hlk]
  rw [show (((q + (k + 1) : Nat) : Int) - 1) = ((q + k : Nat) : Int) by omega, deleteL_at hx hx]
  simp only
  rw [show q + (k + 1) = q + k + 1 by omega, insertC_cut hq hk, List.take_set_of_le (Nat.le_refl _), List.drop_set_of_lt (by omega), ← set_at hl]
theorem ins_part {d : Doc} {i q : Nat} {l : Lin} {cs : List Cel} (hl : d[i]? = some l) (hq : q ≤ l.cells.length) (hM : mayD (insK d i q l cs).lines = true) :
    partD (insK d i q l cs).lines ⟨i, q⟩ ⟨i, ((q + cs.length : Nat) : Int)⟩ = ([{ l with cells := cs }], 0) := by
  have hi := (List.getElem?_eq_some_iff.1 hl).1
  have hx : (insK d i q l cs).lines[i]? = some { l with cells := insertC l.cells q cs } := List.getElem?_set_self hi
  have hcl := insertC_length l.cells q cs hq
  have hsp : spanD (insK d i q l cs).lines ⟨i, q⟩ ⟨i, ((q + cs.length : Nat) : Int)⟩ = true := span_mk hM hx hx (by simp only; omega) (by simp only; omega) (Nat.le_refl _) (fun _ => by omega)
  have hpl := part_length hsp
  have hpg := part_get (k := 0) hsp (by omega) hx
  unfold partD at hpl hpg ⊢
  rw [if_pos hsp] at hpl hpg ⊢
  simp only at hpl hpg ⊢
  obtain ⟨y, hy⟩ := List.length_eq_one_iff.1 (hpl.trans (by omega))
  rw [hy] at hpg ⊢
  simp only [List.getElem?_cons_zero, Option.some.injEq] at hpg
  rw [hpg]
  simp only [Prod.mk.injEq, List.cons.injEq, and_true, Lin.mk.injEq, true_and]
  have hl1 : (l.cells.take q).length = q := by rw [List.length_take]; omega
  unfold insertC
  simp only [Nat.add_zero, if_pos]
  rw [List.append_assoc, List.drop_append, hl1, drop_all (l.cells.take q) (by omega), List.nil_append, Nat.sub_self, List.drop_zero]
  rw [show q + cs.length - q = cs.length by omega, List.take_append_of_le_length (Nat.le_refl _), List.take_length]
end Go.Proofs.Qw
namespace Go.Proofs.Qw
open Go.RowKit Go.Proofs.YtpndnbjpnajaaaaGreatDoor
def nextE : Doc → Doc
  | [] => []
  | l :: r => match l.cells with
    | _ :: cs => { l with cells := cs } :: r
    | [] => match r with
      | m :: r' => { l with cells := m.cells } :: r'
      | [] => [l]
def leftE (d : Doc) : Nat := sizeD d + d.length - 1
def headE (d : Doc) : Lin := { (d.headD default) with cells := [] }
theorem sizeD_cons (l : Lin) (d : Doc) : sizeD (l :: d) = l.cells.length + sizeD d := by simp [sizeD]
theorem next_left : ∀ {d : Doc}, 0 < leftE d → leftE (nextE d) + 1 = leftE d ∧ headE (nextE d) = headE d ∧ nextE d ≠ []
  | [], h => by simp [leftE, sizeD] at h
  | l :: r, h => by
    unfold nextE
    rcases hc : l.cells with _ | ⟨c, cs⟩
    · rcases r with _ | ⟨m, r⟩
      · simp [leftE, sizeD, hc] at h
      · simp only [leftE, sizeD_cons, List.length_cons, hc, List.length_nil, headE, List.headD_cons, ne_eq, reduceCtorEq, not_false_eq_true, and_true]
        omega
    · simp only [leftE, sizeD_cons, List.length_cons, hc, headE, List.headD_cons, ne_eq, reduceCtorEq, not_false_eq_true, and_true]
      omega
theorem forth_next {d : Doc} (hM : mayS (closedS d ⟨0, 0⟩) = true) (h : 0 < leftE d) : keyS (closedS d ⟨0, 0⟩) (forthK (closedS d ⟨0, 0⟩)) = (closedS (nextE d) ⟨0, 0⟩, 0) := by
  rcases d with _ | ⟨l, r⟩
  · simp [leftE, sizeD] at h
  · have hl : (closedS (l :: r) ⟨0, 0⟩).lines[0]? = some l := rfl
    rw [forth_law (i := 0) (j := 0) hM rfl rfl hl (Nat.zero_le _)]
    unfold nextE
    rcases hc : l.cells with _ | ⟨c, cs⟩
    · rw [if_neg (show ¬ 0 < ([] : List Cel).length from Nat.lt_irrefl 0)]
      rcases r with _ | ⟨m, r⟩
      · simp [leftE, sizeD, hc] at h
      · rw [if_pos (by simp [closedS])]
        have hm : (closedS (l :: m :: r) ⟨0, 0⟩).lines[1]? = some m := rfl
        have := deleteL_at (p := 0) (q := 0) hl hm
        rw [show (⟨((0 : Nat) : Int) + 1, 0⟩ : Ps) = ⟨((1 : Nat) : Int), ((0 : Nat) : Int)⟩ from rfl, this]
        simp [closedS, hc]
    · rw [if_pos (by simp)]
      have := deleteL_at (p := 0) (q := 1) hl hl
      rw [show (⟨((0 : Nat) : Int), ((0 : Nat) : Int) + 1⟩ : Ps) = ⟨((0 : Nat) : Int), ((1 : Nat) : Int)⟩ from rfl, this]
      simp [closedS, hc]
theorem forth_end {d : Doc} (hM : mayS (closedS d ⟨0, 0⟩) = true) (h : leftE d = 0) : keyS (closedS d ⟨0, 0⟩) (forthK (closedS d ⟨0, 0⟩)) = (noS, 7) ∧ d = [headE d] := by
  have h1 := (mayD_iff.1 (mayS_at hM).1).1
  rcases d with _ | ⟨l, r⟩
  · simp [closedS] at h1
  · have hc : l.cells = [] := List.length_eq_zero_iff.1 (by simp only [leftE, sizeD_cons, List.length_cons] at h; omega)
    have hr : r = [] := List.length_eq_zero_iff.1 (by simp only [leftE, sizeD_cons, List.length_cons] at h; omega)
    subst hr
    have hl : (closedS [l] ⟨0, 0⟩).lines[0]? = some l := rfl
    refine ⟨?_, ?_⟩
    · rw [forth_law (i := 0) (j := 0) hM rfl rfl hl (Nat.zero_le _), if_neg (by rw [hc]; exact Nat.lt_irrefl _), if_neg (by simp [closedS])]
    · obtain ⟨a, b, c, e⟩ := l
      simp only at hc
      subst hc
      rfl
theorem next_may {d : Doc} (hM : mayS (closedS d ⟨0, 0⟩) = true) (h : 0 < leftE d) : mayS (closedS (nextE d) ⟨0, 0⟩) = true := by
  have h1 := forth_ok hM
  rw [forth_next hM h] at h1
  rcases h1 with ⟨_, D, p, h2, h3, h4⟩ | ⟨_, h2⟩
  · simp only at h2
    rw [h2]
    exact closed_may h3 h4
  · rcases h2 with h2 | h2 <;> cases h2
theorem off_end {d : Doc} (h : d ≠ []) : offD d (endD d) = ((leftE d : Int), 0) := by
  obtain ⟨n, hn⟩ : ∃ n, d.length = n + 1 := ⟨d.length - 1, by have := List.length_pos_iff.2 h; omega⟩
  obtain ⟨l, hl⟩ : ∃ l, d[n]? = some l := ⟨d[n]'(by omega), List.getElem?_eq_getElem (by omega)⟩
  have hg : (d.getD n default) = l := by rw [List.getD_eq_getElem?_getD, hl]; rfl
  have hp := placesFrom_has d 0 n l.cells.length (by omega) (by rw [hg]; exact Nat.le_refl _)
  rw [Nat.zero_add] at hp
  have hsz : sizeD d = sizeD (d.take n) + l.cells.length := by
    rw [← flatc_len, ← flatc_len, flat_at hl, List.length_append, List.length_append, List.drop_eq_nil_of_le (by omega)]
    simp [flat]
  rw [end_at hn hl, places_off (k := sizeD (d.take n) + n + l.cells.length) hp]
  unfold leftE
  rw [hsz, hn]
  simp only [Prod.mk.injEq, and_true]
  omega
theorem flat_cells {d : Doc} {a b : Ps} (h : spanD d a b = true) : flat (partD d a b).1 = cellsD d a b := by
  unfold partD cellsD flat
  rw [if_pos h, if_pos h]
  exact flat_parts d _
theorem flat_out {s : St} (h : mayS s = true) : flat (outS s) = flat (partD s.lines ⟨0, 0⟩ (spanS s).1).1 ++ flat (partD s.lines (spanS s).2 (endD s.lines)).1 ∧
    (partD s.lines ⟨0, 0⟩ (spanS s).1).2 = 0 ∧ (partD s.lines (spanS s).2 (endD s.lines)).2 = 0 ∧
    ∃ (i p : Nat) (l : Lin), (spanS s).1 = ⟨i, p⟩ ∧ (outS s)[i]? = some l ∧ p ≤ l.cells.length ∧ flat ((outS s).take i) ++ l.cells.take p = flat (partD s.lines ⟨0, 0⟩ (spanS s).1).1 ∧ l.cells.drop p ++ flat ((outS s).drop (i + 1)) = flat (partD s.lines (spanS s).2 (endD s.lines)).1 := by
  obtain ⟨_, hsp, _⟩ := out_facts h
  obtain ⟨h1, h2, _⟩ := delete_parts hsp
  rw [flat_cells h1, flat_cells h2]
  have e1 : (partD s.lines ⟨0, 0⟩ (spanS s).1).2 = 0 := by unfold partD; rw [if_pos h1]
  have e2 : (partD s.lines (spanS s).2 (endD s.lines)).2 = 0 := by unfold partD; rw [if_pos h2]
  unfold outS
  obtain ⟨hM, i, j, p, q, l, m, ha, hb, hl, hm, hp, hq, hij, hpq⟩ := span_at hsp
  rw [ha] at h1
  rw [hb] at h2
  rw [ha] at e1
  rw [hb] at e2
  rw [ha, hb]
  have hne := (mayD_iff.1 hM).1
  obtain ⟨n, hn⟩ : ∃ n, s.lines.length = n + 1 := ⟨s.lines.length - 1, by omega⟩
  obtain ⟨z, hz⟩ : ∃ z, s.lines[n]? = some z := ⟨s.lines[n]'(by omega), List.getElem?_eq_getElem (by omega)⟩
  obtain ⟨y, hy⟩ : ∃ y, s.lines[0]? = some y := ⟨s.lines[0]'(by omega), List.getElem?_eq_getElem (by omega)⟩
  have hjn := (List.getElem?_eq_some_iff.1 hm).1
  have hE := end_at hn hz
  rw [hE] at h2 e2
  rw [hE]
  have c1 : cellsD s.lines ⟨0, 0⟩ ⟨i, p⟩ = (flat s.lines).take (offs s.lines i p) := by
    have := cells_span hy hl (Nat.zero_le _) hp (Nat.zero_le _) (fun e => by omega)
    rw [show (⟨0, 0⟩ : Ps) = ⟨((0 : Nat) : Int), ((0 : Nat) : Int)⟩ from rfl, cellsD_at h1, ← this, show offs s.lines 0 0 = 0 by simp [offs, flat], List.take_zero, List.nil_append]
  have c2 : cellsD s.lines ⟨j, q⟩ ⟨n, z.cells.length⟩ = (flat s.lines).drop (offs s.lines j q) := by
    have := cells_span hm hz hq (Nat.le_refl _) (by omega) (fun e => by subst e; obtain rfl := Option.some.inj (hm.symm.trans hz); exact hq)
    have hfull : (flat s.lines).length = offs s.lines n z.cells.length := by
      rw [flat_at hz, List.length_append, List.length_append, drop_all s.lines (by omega)]
      simp [flat, offs]
    rw [← hfull, List.take_length] at this
    rw [cellsD_at h2]
    exact List.append_cancel_left (this.trans (List.take_append_drop _ _).symm)
  have e3 := flat_take hl hp
  have e4 := flat_drop hm hq
  have hg := delete_get (p := p) (q := q) hl hm i
  rw [if_neg (Nat.lt_irrefl _), if_pos rfl] at hg
  have hpl : (l.cells.take p).length = p := by rw [List.length_take]; omega
  have hi := (List.getElem?_eq_some_iff.1 hl).1
  refine ⟨?_, e1, e2, i, p, _, rfl, hg, by simp; omega, ?_, ?_⟩
  · rw [c1, c2, e3, e4, flat_delete hl hm hp hq, e3, e4]
  · rw [c1, e3, deleteL_at hl hm]
    simp only
    rw [List.append_assoc (s.lines.take i), List.take_append_of_le_length (by simp; omega), List.take_take, Nat.min_self, List.take_append_of_le_length (by omega), List.take_take, Nat.min_self]
  · rw [c2, e4, deleteL_at hl hm]
    simp only
    rw [List.drop_append, hpl, drop_all (l.cells.take p) (by omega), List.nil_append, Nat.sub_self, List.drop_zero]
    congr 2
    rw [List.drop_append, drop_all (s.lines.take i ++ _) (by simp; omega), List.nil_append]
    simp only [List.length_append, List.length_take, List.length_singleton, Nat.min_eq_left (Nat.le_of_lt hi), Nat.sub_self, List.drop_zero]
theorem flat_set {d : Doc} {i : Nat} {l : Lin} (hl : d[i]? = some l) (x : Lin) : flat (d.set i x) = flat (d.take i) ++ (x.cells ++ flat (d.drop (i + 1))) := by
  rw [set_at hl, flat_append, flat_append, flat_one, List.append_assoc]
theorem text_flat {s u : St} {t : ByteArray} (h : mayS s = true) (he : keyS s (textK s t) = (u, 0)) :
    ∃ b hr, flat u.lines = flat (partD s.lines ⟨0, 0⟩ (spanS s).1).1 ++ cellsOf (cleanB t) b hr ++ flat (partD s.lines (spanS s).2 (endD s.lines)).1 := by
  obtain ⟨_, _, _, i, p, l, hA, hl, hp, k1, k2⟩ := flat_out h
  rw [text_law h] at he
  split at he
  · cases he
  · split at he
    · cases he
    · rw [hA, lineAt_eq hl] at he
      simp only [Int.toNat_natCast] at he
      refine ⟨typB s, (aroundF l.cells p).2, ?_⟩
      rw [← k1, ← k2]
      obtain ⟨X, y, e, hX⟩ : ∃ X y e, insertD (cellsOf (cleanB t) (typB s) (aroundF l.cells p).2) (outS s) ⟨i, p⟩ = (X, y, e) := ⟨_, _, _, rfl⟩
      rw [hX] at he
      unfold endS at he
      simp only at he
      split at he
      · rename_i h0
        subst h0
        unfold insertD at hX
        split at hX
        · split at hX
          · cases hX
          · simp only [Int.toNat_natCast, Prod.mk.injEq, List.getD_eq_getElem?_getD, hl, Option.getD_some] at hX
            obtain ⟨rfl, rfl, _⟩ := hX
            cases he
            show flat ((outS s).set i _) = _
            rw [flat_set hl]
            simp only [insertC, List.append_assoc]
        · cases hX
      · rename_i h0
        exact absurd (congrArg Prod.snd he) h0
theorem para_flat {s u : St} (h : mayS s = true) (he : keyS s (paraK s) = (u, 0)) :
    flat u.lines = flat (partD s.lines ⟨0, 0⟩ (spanS s).1).1 ++ flat (partD s.lines (spanS s).2 (endD s.lines)).1 := by
  obtain ⟨k0, _, _, i, p, l, hA, hl, hp, k1, k2⟩ := flat_out h
  rw [← k0]
  rw [key_may h] at he
  unfold paraK at he
  rw [hA, lineAt_eq hl] at he
  have hi := (List.getElem?_eq_some_iff.1 hl).1
  obtain ⟨r, hr⟩ : ∃ r, (if l.cells = [] then outdentL l else none) = r := ⟨_, rfl⟩
  rw [hr] at he
  cases r with
  | some l' =>
    split at hr
    · rename_i hce
      have hcl : l'.cells = l.cells := by
        unfold outdentL at hr
        split at hr
        · cases hr; rfl
        · split at hr
          · cases hr; rfl
          · cases hr
      unfold putK endS at he
      simp only [if_pos, Int.toNat_natCast] at he
      cases he
      show flat ((outS s).set i l') = _
      rw [flat_set hl, hcl, ← flat_at hl]
    · cases hr
  | none =>
    obtain ⟨X, y, e, hX⟩ : ∃ X y e, splitD (outS s) ⟨i, p⟩ = (X, y, e) := ⟨_, _, _, rfl⟩
    unfold putK at he
    simp only at he
    rw [hX] at he
    unfold endS at he
    simp only at he
    split at he
    · rename_i h0
      subst h0
      cases he
      show flat X = _
      unfold splitD at hX
      split at hX
      · split at hX
        · cases hX
        · cases hX
          unfold splitLD
          simp only [Int.toNat_natCast, List.getD_eq_getElem?_getD, hl, Option.getD_some]
          have hcs : (splitL l p).1.cells ++ (splitL l p).2.cells = l.cells := by
            unfold splitL
            by_cases hlq : l.cells.length ≤ p
            · rw [if_pos hlq, List.append_nil]; exact List.take_of_length_le hlq
            · rw [if_neg hlq]; exact List.take_append_drop _ _
          rw [flat_append, flat_append, flat_at hl, ← hcs]
          simp [flat]
      · cases hX
    · rename_i h0
      exact absurd (congrArg Prod.snd he) h0
end Go.Proofs.Qw
namespace Go.Proofs.Qw
open Go.RowKit Go.Proofs.YtpndnbjpnajaaaaGreatDoor
def exRc (r : Int) : Cel := ⟨r, 0, []⟩
def exT0 : Doc := [⟨0, [], 0, [exRc 97, exRc 98]⟩, ⟨0, [0], 0, []⟩]
def exTa : Doc := [⟨0, [], 0, [exRc 97, exRc 120, exRc 121, exRc 98]⟩, ⟨0, [0], 0, []⟩]
def exTb : Doc := [⟨0, [], 0, [exRc 97, exRc 120, exRc 98]⟩, ⟨0, [0], 0, []⟩]
def exTc : Doc := [⟨0, [], 0, [exRc 97]⟩, ⟨0, [], 0, [exRc 98]⟩, ⟨0, [0], 0, []⟩]
def exTd : Doc := [⟨0, [], 0, [exRc 97]⟩]
def exTp : Doc := [⟨0, [], 0, [exRc 97, exRc 98]⟩, ⟨0, [], 0, []⟩]
def exS1 : St := ⟨exT0, ⟨0, 1⟩, ⟨0, 1⟩, 0, 0⟩
def exS2 : St := ⟨exT0, ⟨0, 1⟩, ⟨1, 0⟩, 0, 0⟩
def exS3 : St := ⟨exT0, ⟨1, 0⟩, ⟨1, 0⟩, 0, 0⟩
def exSa : St := ⟨exTa, ⟨0, 3⟩, ⟨0, 3⟩, 0, 0⟩
def exSb : St := ⟨exTb, ⟨0, 2⟩, ⟨0, 2⟩, 0, 0⟩
def exSc : St := ⟨exTc, ⟨1, 0⟩, ⟨1, 0⟩, 0, 0⟩
def exSd : St := ⟨exTd, ⟨0, 1⟩, ⟨0, 1⟩, 0, 0⟩
def exSp : St := ⟨exTp, ⟨1, 0⟩, ⟨1, 0⟩, 0, 0⟩
set_option maxRecDepth 10000 in
theorem ex0_may : mayD exT0 = true := by decide +kernel
theorem exa_may : mayD exTa = true := by decide +kernel
theorem ex_text : keyS exS1 (textK exS1 ⟨#[120, 121]⟩) = (exSa, 0) := by decide +kernel
theorem ex_back : keyS exSa (backK exSa) = (exSb, 0) := by decide +kernel
theorem ex_para : keyS exS1 (paraK exS1) = (exSc, 0) := by decide +kernel
theorem ex_erase : keyS exS2 (eraseK exS2) = (exSd, 0) := by decide +kernel
theorem ex_out : keyS exS3 (paraK exS3) = (exSp, 0) := by decide +kernel
theorem ex_forth : keyS exS3 (forthK exS3) = (noS, 7) := by decide +kernel
end Go.Proofs.Qw
namespace Go.Proofs.YtpndnbjpnajaaaaGreatDoor
open Go.RowKit
open Go.Proofs.Qw
attribute [local go_sem] Oper.semAt_some
theorem blk1 {w : World} {B : Nat} {cs : Array Value} {t : TypeId} (h : w.heap[B]? = some (.cells cs t)) : (∀ X k, (w.alloc X).cell? ⟨B, k, none⟩ = cs[k]?) ∧ (∀ X k, (w.alloc X).frozen? ⟨B, k, none⟩ = false) :=
  ⟨fun X _ => cell_of_heap (heap_old _ X h), fun X _ => frozen_of_heap (heap_old _ X h)⟩
def DocPB (n : Nat) (x : Doc × Ps × Int) (w : World) (e : Ending) (w' : World) : Prop := ∃ v', e = .returned (.tuple #[v', posV x.2.1, .int .i64 x.2.2]) ∧ DocR true w' (fun b => n ≤ b) v' x.1 ∧ Below n w w'
theorem DocPSaid.base {x : Doc × Ps × Int} {w W : World} {e : Ending} {w' : World} {n : Nat} (h : DocPSaid x W e w') (hb : Below n w W) (hn : n ≤ W.heap.size) : DocPB n x w e w' := by
  obtain ⟨v', h1, h2, h3⟩ := h
  exact ⟨v', h1, SliceR.stable (rdLin_stable true) h2 (Keeps.refl _ _) (fun b h _ => Nat.le_trans hn h), hb.trans (h3.mono hn)⟩
def KeyDoes (s : St) (g : Nat) (lb : Array Value) (R : Doc × Ps × Int) (w : World) : Prop :=
  ∀ (n : Nat) (W : World) (a : Option Addr) (c : Nat), Below w.heap.size w W → w.heap.size ≤ n → n ≤ W.heap.size → DocR true W (fun b => n ≤ b) (.slice a (outS s).length c) (outS s) → Calls Tryz.prog g (#[.slice a (outS s).length c, posV (spanS s).1] ++ lb) W (DocPB n R W)
set_option maxRecDepth 100000 in
set_option maxHeartbeats 4000000 in
theorem emptied_any (v : Value) (s : St) (g : Nat) (lb : Array Value) (R : Doc × Ps × Int) (w : World) (S : Nat → Prop) (h : LinsR w S v s.lines) (he : EnvT w) (hs : Small s.lines) (hf : Fits s.lines)
    (eg : ∀ args w, (callFunc g args).run Tryz.prog w = .ok (.enter g args) w) (hg : mayS s = true → KeyDoes s g lb R w) :
    Calls Tryz.prog 109 #[stV v s, .func (.func g) #[] lb] w (StSaid (keyS s R) w) := by
  obtain ⟨W1, hW1, hB, hz, k0, k1⟩ := st_two w v s
  have HB : Hid (∀ W, Below W1.heap.size W1 W → W.heap[w.heap.size]? = some (.cells #[v, .int .i64 s.anc.line, .int .i64 s.anc.col, .int .i64 s.foc.line, .int .i64 s.foc.col, .int .i64 s.on, .int .i64 s.off] 26) ∧ W.heap[w.heap.size + 1]? = some (.cells #[.slice none 0 0, .int .i64 0, .int .i64 0, .int .i64 0, .int .i64 0, .int .i64 0, .int .i64 0] 26)) := Lib.hid fun W hW => ⟨heap_below hW k0, heap_below hW k1⟩
  have hs1 := hB.size
  have H1 := Lib.hid hB
  have hw0 : Below W1.heap.size W1 W1 := Below.refl _ _
  have HV : Hid (∀ W, Below W1.heap.size W1 W → LinsR W S v s.lines) := Lib.hid fun W hW => h.below (rdLin_stable _) (hB.trans (hW.mono hs1))
  have HE : Hid (∀ W, Below W1.heap.size W1 W → EnvT W) := Lib.hid fun W hW => (he.below hB).below hW
  have HM : Hid (∀ W, Below W1.heap.size W1 W → Calls Tryz.prog 27 #[stV v s] W fun e w' => e = .returned (.bool (mayS s)) ∧ Below W.heap.size W w') := Lib.hid fun W hW => stMay_any v s W S (HV.out W hW) (HE.out W hW) hs
  have HR : Hid (keyS s R = if mayS s = true then endS R else (noS, 1)) := Lib.hid rfl
  cases hm : mayS s
  · rw [hm] at HM HR
    have HR : Hid (keyS s R = (noS, 1)) := Lib.hid (HR.out.trans (if_neg (by simp)))
    obtain ⟨p0, f0⟩ := blk k0
    obtain ⟨p1, f1⟩ := blk k1
    obtain ⟨va, vc, rfl⟩ := h.slice
    clear h he hs hf hg k0 k1 hB hm
    go_enter Tryz.func109, Tryz.ntmps109
    go_wp2_with ((go_at_call 27; refine (HM.out _ hw0).mono ?_; rintro e w2 ⟨rfl, hst2⟩; have hb2 := below_from hw0 hst2; obtain ⟨q1, g1⟩ := blk (HB.out _ hb2).2))
    refine bodyPost_ret (results_st_e rfl _ _ (w.heap.size + 1) (.slice none 0 0) (.int .i64 0) (.int .i64 0) (.int .i64 0) (.int .i64 0) (.int .i64 0) (.int .i64 0) (.int .i64 1) rfl rfl (by simp [heap_set, putIn, (HB.out _ hb2).2])) rfl ?_
    unfold StSaid
    rw [HR.out]
    have hfin := H1.out.trans (hb2.mono hs1)
    exact ⟨_, rfl, SliceR.nil _ _ _ _ _ _, by (repeat' (first | (with_reducible exact Below.refl _ _) | (with_reducible assumption) | (with_reducible refine Below.alloc ?_ ?_ _) | (with_reducible refine Below.drew ?_) | (with_reducible refine drewN_below ?_) | (with_reducible refine Below.setCell ?_ ?_ _) | go_size))⟩
  · have HG : Hid (∀ (n : Nat) (W : World) (a : Option Addr) (c : Nat), Below W1.heap.size W1 W → W1.heap.size ≤ n → n ≤ W.heap.size → DocR true W (fun b => n ≤ b) (.slice a (outS s).length c) (outS s) → Calls Tryz.prog g (#[.slice a (outS s).length c, posV (spanS s).1] ++ lb) W (DocPB n R W)) :=
      Lib.hid fun n W a c hW h1 h2 h3 => hg hm n W a c (hB.trans (hW.mono hs1)) (Nat.le_trans hs1 h1) h2 h3
    have hd := (out_facts hm).2.2.2.1
    rw [hm] at HM HR
    rw [if_pos rfl] at HR
    have HSp : Hid (∀ W, Below W1.heap.size W1 W → Calls Tryz.prog 28 #[stV v s] W fun e w' => e = .returned (.tuple #[.agg #[.int .i64 (spanS s).1.line, .int .i64 (spanS s).1.col], .agg #[.int .i64 (spanS s).2.line, .int .i64 (spanS s).2.col]]) ∧ Below W.heap.size W w') := Lib.hid fun W hW => stSpan_any v s W
    have HD : Hid (∀ W, Below W1.heap.size W1 W → Calls Tryz.prog 122 #[v, posV (spanS s).1, posV (spanS s).2] W (DocSaid (outS s, 0) W)) := Lib.hid fun W hW => by
      have := docDelete_any v s.lines (spanS s).1 (spanS s).2 W S (HV.out W hW) (HE.out W hW) hs hf
      rw [hd] at this
      exact this
    obtain ⟨O, hO⟩ : ∃ O, outS s = O := ⟨_, rfl⟩
    rw [hO] at HD HG
    obtain ⟨A, B, hAB⟩ : ∃ A B, spanS s = (A, B) := ⟨_, _, rfl⟩
    rw [hAB] at HSp HG HD
    simp only at HSp HG HD
    obtain ⟨D, q, er, hD⟩ : ∃ D q er, R = (D, q, er) := ⟨_, _, _, rfl⟩
    subst hD
    have HP : Hid (∀ p : Ps, posV p = .agg #[.int .i64 p.line, .int .i64 p.col]) := Lib.hid fun _ => rfl
    rw [HP.out] at HG
    rw [HP.out, HP.out] at HD
    have HCl := Lib.hid (fun (a : Option Addr) (n c : Nat) (p : Ps) (W : World) => typClosed_any a n c p W)
    obtain ⟨p0, f0⟩ := blk k0
    obtain ⟨p1, f1⟩ := blk k1
    obtain ⟨va, vc, rfl⟩ := h.slice
    clear h he hs hf hg k0 k1 hB hm hAB hd hO
    by_cases h0 : er = 0
    · subst h0
      have HR := Lib.hid (HR.out.trans (show endS (D, q, (0 : Int)) = (closedS D q, 0) from if_pos rfl))
      go_enter Tryz.func109, Tryz.ntmps109
      go_wp2_with (first
        | (go_at_call 27; refine (HM.out _ hw0).mono ?_; rintro e w2 ⟨rfl, hst2⟩; have hb2 := below_from hw0 hst2; obtain ⟨q0, g0⟩ := blk (HB.out _ hb2).1) | (go_at_call 28; refine (HSp.out _ hb2).mono ?_; rintro e w3 ⟨rfl, hst3⟩; have hb3 := below_from hb2 hst3; obtain ⟨q1, g1⟩ := blk (HB.out _ hb3).1; have hz3 := hb3.size; have e3 : ¬ w3.heap.size = w.heap.size := (by omega); have r1 := on2 (HB.out _ hb3).1; have HX3 : Hid (∀ X Y, Below W1.heap.size W1 ((w3.alloc X).alloc Y)) := Lib.hid fun X Y => hb3.trans (below2 (Below.refl _ _) X Y |>.mono hz3)) | (go_at_call 122; refine (HD.out _ (HX3.out _ _)).mono ?_; intro e w4 hsaid; obtain ⟨v4, rfl, hv4, hst4⟩ := hsaid; obtain ⟨a4, c4, rfl⟩ := hv4.slice; have hb4 := below_from (HX3.out _ _) hst4; have HV4 := Lib.hid hv4; clear hv4; have hz4 := hst4.size; have m4 := heap_below hst4 (heap_old _ _ (heap_new _ _ rfl)); obtain ⟨q4, g4⟩ := blk m4) | (go_at_fn g; refine (HG.out _ _ a4 c4 hb4 (HX3.out _ _).size hz4 HV4.out).mono ?_; intro e w5 hsaid; obtain ⟨v5, he5, hv5, hst5⟩ := hsaid; simp only [HP.out] at he5; subst he5; obtain ⟨a5, c5, rfl⟩ := hv5.slice; have hb5 := hb4.trans (hst5.mono (HX3.out _ _).size); have HV5 := Lib.hid hv5; clear hv5; obtain ⟨q5, g5⟩ := blk (HB.out _ hb5).2; have hz5 := hb5.size; obtain ⟨r5, s5⟩ := blk1 (HB.out _ hb5).2)
        | (go_at_call 140; refine (HCl.out _ _ _ q _).mono ?_; rintro e w6 ⟨rfl, hst6⟩; have hb56 : Below w5.heap.size w5 w6 := below_from ((Below.refl _ _).alloc (Nat.le_refl _) _) hst6; have hb6 := below_from hb5 hb56; obtain ⟨q6, g6⟩ := blk (HB.out _ hb6).2))
      refine bodyPost_ret (results_st_e rfl _ _ (w.heap.size + 1) (.slice a5 D.length c5) (.int .i64 q.line) (.int .i64 q.col) (.int .i64 q.line) (.int .i64 q.col) (.int .i64 0) (.int .i64 0) (.int .i64 0) rfl rfl (by simp [heap_set, putIn, (HB.out _ hb6).2])) rfl ?_
      unfold StSaid
      rw [HR.out]
      have hfin := H1.out.trans (hb6.mono hs1)
      have hv5 := HV5.out.below hb56
      exact ⟨_, rfl, (SliceR.stable (rdLin_stable _) hv5 (by (repeat' (first | (with_reducible exact Keeps.refl _ _) | (with_reducible refine Keeps.set ?_ ?_ _) | (with_reducible refine Keeps.alloc ?_ _) | (with_reducible refine Keeps.drew ?_) | (first | fail) | (simp; omega)))) (fun b h _ => (by have h' := h; (try simp at h'); omega))), by (repeat' (first | (with_reducible exact Below.refl _ _) | (with_reducible assumption) | (with_reducible refine Below.alloc ?_ ?_ _) | (with_reducible refine Below.drew ?_) | (with_reducible refine drewN_below ?_) | (with_reducible refine Below.setCell ?_ ?_ _) | go_size))⟩
    · have HR2 : Hid (keyS s (D, q, er) = (noS, er)) := Lib.hid (HR.out.trans (if_neg h0))
      have hne : (er != 0) = true := by simpa using h0
      have hne2 : (er == 0) = false := by simpa using h0
      clear h0 HR
      go_enter Tryz.func109, Tryz.ntmps109
      go_wp2_with (first
        | (go_at_call 27; refine (HM.out _ hw0).mono ?_; rintro e w2 ⟨rfl, hst2⟩; have hb2 := below_from hw0 hst2; obtain ⟨q0, g0⟩ := blk (HB.out _ hb2).1) | (go_at_call 28; refine (HSp.out _ hb2).mono ?_; rintro e w3 ⟨rfl, hst3⟩; have hb3 := below_from hb2 hst3; obtain ⟨q1, g1⟩ := blk (HB.out _ hb3).1; have hz3 := hb3.size; have e3 : ¬ w3.heap.size = w.heap.size := (by omega); have r1 := on2 (HB.out _ hb3).1; have HX3 : Hid (∀ X Y, Below W1.heap.size W1 ((w3.alloc X).alloc Y)) := Lib.hid fun X Y => hb3.trans (below2 (Below.refl _ _) X Y |>.mono hz3)) | (go_at_call 122; refine (HD.out _ (HX3.out _ _)).mono ?_; intro e w4 hsaid; obtain ⟨v4, rfl, hv4, hst4⟩ := hsaid; obtain ⟨a4, c4, rfl⟩ := hv4.slice; have hb4 := below_from (HX3.out _ _) hst4; have HV4 := Lib.hid hv4; clear hv4; have hz4 := hst4.size; have m4 := heap_below hst4 (heap_old _ _ (heap_new _ _ rfl)); obtain ⟨q4, g4⟩ := blk m4) | (go_at_fn g; refine (HG.out _ _ a4 c4 hb4 (HX3.out _ _).size hz4 HV4.out).mono ?_; intro e w5 hsaid; obtain ⟨v5, he5, hv5, hst5⟩ := hsaid; simp only [HP.out] at he5; subst he5; obtain ⟨a5, c5, rfl⟩ := hv5.slice; have hb5 := hb4.trans (hst5.mono (HX3.out _ _).size); have HV5 := Lib.hid hv5; clear hv5; obtain ⟨q5, g5⟩ := blk (HB.out _ hb5).2; have hz5 := hb5.size; obtain ⟨r5, s5⟩ := blk1 (HB.out _ hb5).2))
      refine bodyPost_ret (results_st_e rfl _ _ (w.heap.size + 1) (.slice none 0 0) (.int .i64 0) (.int .i64 0) (.int .i64 0) (.int .i64 0) (.int .i64 0) (.int .i64 0) (.int .i64 er) rfl rfl (by simp [heap_set, putIn, heap_old _ _ (HB.out _ hb5).2])) rfl ?_
      unfold StSaid
      rw [HR2.out]
      have hfin := H1.out.trans (hb5.mono hs1)
      exact ⟨_, rfl, SliceR.nil _ _ _ _ _ _, by (repeat' (first | (with_reducible exact Below.refl _ _) | (with_reducible assumption) | (with_reducible refine Below.alloc ?_ ?_ _) | (with_reducible refine Below.drew ?_) | (with_reducible refine drewN_below ?_) | (with_reducible refine Below.setCell ?_ ?_ _) | go_size))⟩
end Go.Proofs.YtpndnbjpnajaaaaGreatDoor
namespace Go.Proofs.YtpndnbjpnajaaaaGreatDoor
open Go.RowKit
open Go.Proofs.Qw
attribute [local go_sem] Oper.semAt_some
theorem DocPB.err {n : Nat} {x : Doc × Ps × Int} {w w' : World} {q : Ps} {e : Int} (hx : x = ([], q, e)) (hb : Below w.heap.size w w') (hn : n ≤ w.heap.size) : DocPB n x w (.returned (.tuple #[.slice none 0 0, .agg #[.int .i64 q.line, .int .i64 q.col], .int .i64 e])) w' := by
  subst hx
  exact ⟨_, rfl, SliceR.nil _ _ _ _ _ _, hb.mono hn⟩
theorem DocPB.same {n : Nat} {x : Doc × Ps × Int} {w w' : World} {v : Value} {O : Doc} {q : Ps} (hx : x = (O, q, 0)) (hO : DocR true w (fun b => n ≤ b) v O) (hb : Below w.heap.size w w') (hn : n ≤ w.heap.size) : DocPB n x w (.returned (.tuple #[v, .agg #[.int .i64 q.line, .int .i64 q.col], .int .i64 0])) w' := by
  subst hx
  exact ⟨_, rfl, hO.below hb, hb.mono hn⟩
set_option maxRecDepth 100000 in
set_option maxHeartbeats 2000000 in
theorem erase1_any (Bs : Nat) (v : Value) (s : St) (n : Nat) (a : Option Addr) (c : Nat) (w : World) (hst : w.heap[Bs]? = some (.cells #[v, .int .i64 s.anc.line, .int .i64 s.anc.col, .int .i64 s.foc.line, .int .i64 s.foc.col, .int .i64 s.on, .int .i64 s.off] 26)) (h : DocR true w (fun b => n ≤ b) (.slice a (outS s).length c) (outS s)) (hn : n ≤ w.heap.size) :
    Calls Tryz.prog 110 #[.slice a (outS s).length c, posV (spanS s).1, .pointer (some ⟨Bs, 0, none⟩)] w (DocPB n (eraseK s) w) := by
  have HR : Hid (eraseK s = if s.anc = s.foc then ([], (spanS s).1, 7) else (outS s, (spanS s).1, 0)) := Lib.hid rfl
  obtain ⟨O, hO⟩ : ∃ O, outS s = O := ⟨_, rfl⟩
  obtain ⟨A, hA⟩ : ∃ A, (spanS s).1 = A := ⟨_, rfl⟩
  rw [hO] at h
  rw [hO, hA] at HR ⊢
  obtain ⟨W1, hW1, hB, hz, k0, k1⟩ := two_pos w (.int .i64 A.line) (.int .i64 A.col) (.int .i64 0) (.int .i64 0)
  have kt := heap_below hB hst
  have H := Lib.hid h
  have H1 := Lib.hid hB
  have HK := Lib.hid k1
  have HN := Lib.hid hn
  have hg := guardPos
  have hq := fun (w : World) => run_eql_pos s.anc s.foc w
  have HP : Hid (∀ p : Ps, posV p = .agg #[.int .i64 p.line, .int .i64 p.col]) := Lib.hid fun _ => rfl
  rw [HP.out]
  obtain ⟨p0, f0⟩ := blk k0
  obtain ⟨p1, f1⟩ := blk k1
  obtain ⟨p2, f2⟩ := blk kt
  by_cases hc : s.anc = s.foc
  · rw [if_pos hc] at HR
    rw [decide_eq_true hc] at hq
    clear h hB hc k0 k1 kt hst hn hO hA
    go_enter Tryz.func110, Tryz.ntmps110
    go_wp2_with fail
    go_region
    go_wp2_with fail
    refine bodyPost_ret (results_dpe rfl _ _ (w.heap.size + 1) (.int .i64 A.line) (.int .i64 A.col) rfl (by rw [drew_heap]; simp [heap_set, putIn, HK.out])) rfl ?_
    have hfin := H1.out
    exact DocPB.err HR.out (by (repeat' (first | (with_reducible exact Below.refl _ _) | (with_reducible assumption) | (with_reducible refine Below.alloc ?_ ?_ _) | (with_reducible refine Below.drew ?_) | (with_reducible refine drewN_below ?_) | (with_reducible refine Below.setCell ?_ ?_ _) | go_size))) HN.out
  · rw [if_neg hc] at HR
    rw [decide_eq_false hc] at hq
    clear h hB hc k0 k1 kt hst hn hO hA
    go_enter Tryz.func110, Tryz.ntmps110
    go_wp2_with fail
    go_region
    go_wp2_with fail
    refine bodyPost_ret (results_dpe rfl _ _ (w.heap.size + 1) (.int .i64 A.line) (.int .i64 A.col) rfl (by rw [drew_heap]; simp [heap_set, putIn, HK.out])) rfl ?_
    have hfin := H1.out
    exact DocPB.same HR.out H.out (by (repeat' (first | (with_reducible exact Below.refl _ _) | (with_reducible assumption) | (with_reducible refine Below.alloc ?_ ?_ _) | (with_reducible refine Below.drew ?_) | (with_reducible refine drewN_below ?_) | (with_reducible refine Below.setCell ?_ ?_ _) | go_size))) HN.out
set_option maxRecDepth 100000 in
set_option maxHeartbeats 2000000 in
theorem forth1_any (Bs : Nat) (v : Value) (s : St) (n : Nat) (a : Option Addr) (c : Nat) (w : World) (hst : w.heap[Bs]? = some (.cells #[v, .int .i64 s.anc.line, .int .i64 s.anc.col, .int .i64 s.foc.line, .int .i64 s.foc.col, .int .i64 s.on, .int .i64 s.off] 26)) (h : DocR true w (fun b => n ≤ b) (.slice a (outS s).length c) (outS s)) (hn : n ≤ w.heap.size) (he : EnvT w) (hs : Small (outS s)) (hf : Fits (outS s)) :
    Calls Tryz.prog 125 #[.slice a (outS s).length c, posV (spanS s).1, .pointer (some ⟨Bs, 0, none⟩)] w (DocPB n (forthK s) w) := by
  have HR : Hid (forthK s = if s.anc = s.foc then (if (stepD (outS s) (spanS s).1 1).2 = true then cutK (outS s) (spanS s).1 (stepD (outS s) (spanS s).1 1).1 (spanS s).1 else ([], (spanS s).1, 7)) else (outS s, (spanS s).1, 0)) := Lib.hid rfl
  obtain ⟨O, hO⟩ : ∃ O, outS s = O := ⟨_, rfl⟩
  obtain ⟨A, hA⟩ : ∃ A, (spanS s).1 = A := ⟨_, rfl⟩
  rw [hO] at h hs hf
  rw [hO, hA] at HR ⊢
  obtain ⟨W1, hW1, hB, hz, k0, k1⟩ := two_pos w (.int .i64 A.line) (.int .i64 A.col) (.int .i64 0) (.int .i64 0)
  have hs1 := hB.size
  have kt := heap_below hB hst
  have HB : Hid (∀ W, Below W1.heap.size W1 W → W.heap[w.heap.size]? = some (.cells #[.int .i64 A.line, .int .i64 A.col] 24) ∧ W.heap[w.heap.size + 1]? = some (.cells #[.int .i64 0, .int .i64 0] 24) ∧ W.heap[Bs]? = some (.cells #[v, .int .i64 s.anc.line, .int .i64 s.anc.col, .int .i64 s.foc.line, .int .i64 s.foc.col, .int .i64 s.on, .int .i64 s.off] 26)) := Lib.hid fun W hW => ⟨heap_below hW k0, heap_below hW k1, heap_below hW kt⟩
  have hw0 : Below W1.heap.size W1 W1 := Below.refl _ _
  have HS : Hid (∀ W, Below W1.heap.size W1 W → Calls Tryz.prog 121 #[.slice a O.length c, .agg #[.int .i64 A.line, .int .i64 A.col], .int .i64 1] W fun e w' => e = .returned (.tuple #[.agg #[.int .i64 (stepD O A 1).1.line, .int .i64 (stepD O A 1).1.col], .bool (stepD O A 1).2]) ∧ Below W.heap.size W w') := Lib.hid fun W hW => step_any _ O A 1 W w (fun b => n ≤ b) h.read (hB.trans (hW.mono hs1)) hs.1 hs.2.1 (by decide)
  have HD : Hid (∀ p W, Below W1.heap.size W1 W → Calls Tryz.prog 122 #[.slice a O.length c, .agg #[.int .i64 A.line, .int .i64 A.col], .agg #[.int .i64 p.line, .int .i64 p.col]] W (DocSaid (deleteD O A p) W)) := Lib.hid fun p W hW => docDelete_any _ O A p W (fun b => n ≤ b) (h.below (hB.trans (hW.mono hs1))).read ((he.below hB).below hW) hs hf
  have H := Lib.hid h
  have H1 := Lib.hid hB
  have HN := Lib.hid hn
  have hg := guardPos
  have hq := fun (w : World) => run_neq_pos s.anc s.foc w
  have HP : Hid (∀ p : Ps, posV p = .agg #[.int .i64 p.line, .int .i64 p.col]) := Lib.hid fun _ => rfl
  rw [HP.out]
  obtain ⟨q, t, hqt⟩ : ∃ q t, stepD O A 1 = (q, t) := ⟨_, _, rfl⟩
  rw [hqt] at HR HS
  simp only at HR HS
  have HD := Lib.hid (fun W hW => HD.out q W hW)
  obtain ⟨p0, f0⟩ := blk k0
  by_cases hc : s.anc = s.foc
  · rw [if_pos hc] at HR
    rw [decide_eq_true hc] at hq
    cases t
    · rw [if_neg (by decide)] at HR
      clear h hB hc k0 k1 kt hst hn hO hA hs hf he hqt HD
      go_enter Tryz.func125, Tryz.ntmps125
      go_wp2_with (go_at_call 121; refine (HS.out _ hw0).mono ?_; rintro e w2 ⟨rfl, hst2⟩; have hb2 := below_from hw0 hst2; obtain ⟨c0, d0⟩ := blk1 (HB.out _ hb2).1; obtain ⟨c1, d1⟩ := blk1 (HB.out _ hb2).2.1; obtain ⟨c2, d2⟩ := blk1 (HB.out _ hb2).2.2; have hz2 := hb2.size; have n1 : ¬ w2.heap.size = w.heap.size + 1 := (by omega); have n2 : ¬ w.heap.size + 1 = w2.heap.size := (by omega))
      go_region
      go_wp2_with fail
      have hfin := H1.out.trans (hb2.mono hs1)
      refine bodyPost_ret (results_dpe rfl _ _ (w.heap.size + 1) (.int .i64 A.line) (.int .i64 A.col) rfl (by rw [drew_heap]; simp [heap_set, putIn, heap_old _ _ (HB.out _ hb2).2.1])) rfl ?_
      exact DocPB.err HR.out (by (repeat' (first | (with_reducible exact Below.refl _ _) | (with_reducible assumption) | (with_reducible refine Below.alloc ?_ ?_ _) | (with_reducible refine Below.drew ?_) | (with_reducible refine drewN_below ?_) | (with_reducible refine Below.setCell ?_ ?_ _) | go_size))) HN.out
    · rw [if_pos rfl] at HR
      have HX : Hid (cutK O A q A = ((deleteD O A q).1, A, (deleteD O A q).2)) := Lib.hid rfl
      obtain ⟨D, er, hD⟩ : ∃ D er, deleteD O A q = (D, er) := ⟨_, _, rfl⟩
      rw [hD] at HX HD
      clear h hB hc k0 k1 kt hst hn hO hA hs hf he hqt hD
      go_enter Tryz.func125, Tryz.ntmps125
      go_wp2_with (first
        | (go_at_call 121; refine (HS.out _ hw0).mono ?_; rintro e w2 ⟨rfl, hst2⟩; have hb2 := below_from hw0 hst2; obtain ⟨c0, d0⟩ := blk1 (HB.out _ hb2).1; obtain ⟨c1, d1⟩ := blk1 (HB.out _ hb2).2.1; obtain ⟨c2, d2⟩ := blk1 (HB.out _ hb2).2.2; have hz2 := hb2.size; have n1 : ¬ w2.heap.size = w.heap.size + 1 := (by omega); have n2 : ¬ w.heap.size + 1 = w2.heap.size := (by omega))
        | (go_at_call 122; refine (HD.out _ (hb2.alloc hb2.size _)).mono ?_; intro e w4 hsaid; obtain ⟨v4, rfl, hv4, hst4⟩ := hsaid; have hb4 := below_from (hb2.alloc hb2.size _) hst4; have HV4 := Lib.hid hv4; clear hv4; obtain ⟨q0, g0⟩ := blk (HB.out _ hb4).1; obtain ⟨q1, g1⟩ := blk (HB.out _ hb4).2.1))
      go_region
      go_wp2_with fail
      have hfin := H1.out.trans (hb4.mono hs1)
      refine bodyPost_ret (results_dpe rfl _ _ (w.heap.size + 1) (.int .i64 A.line) (.int .i64 A.col) rfl (by rw [drew_heap]; simp [heap_set, putIn, (HB.out _ hb4).2.1])) rfl ?_
      rw [HR.out, HX.out]
      have hv4 := HV4.out
      have hn4 : n ≤ w.heap.size := HN.out
      refine ⟨_, rfl, (SliceR.stable (rdLin_stable _) hv4 (by (repeat' (first | (with_reducible exact Keeps.refl _ _) | (with_reducible refine Keeps.set ?_ ?_ _) | (with_reducible refine Keeps.alloc ?_ _) | (with_reducible refine Keeps.drew ?_) | (first | fail) | (simp; omega)))) (fun b h _ => (by have h' := h; (try simp at h'); omega))), ?_⟩
      refine Below.mono ?_ HN.out
      (repeat' (first | (with_reducible exact Below.refl _ _) | (with_reducible assumption) | (with_reducible refine Below.alloc ?_ ?_ _) | (with_reducible refine Below.drew ?_) | (with_reducible refine drewN_below ?_) | (with_reducible refine Below.setCell ?_ ?_ _) | go_size))
  · rw [if_neg hc] at HR
    rw [decide_eq_false hc] at hq
    clear h hB hc k0 k1 kt hst hn hO hA hs hf he hqt HD
    go_enter Tryz.func125, Tryz.ntmps125
    go_wp2_with (go_at_call 121; refine (HS.out _ hw0).mono ?_; rintro e w2 ⟨rfl, hst2⟩; have hb2 := below_from hw0 hst2; obtain ⟨c0, d0⟩ := blk1 (HB.out _ hb2).1; obtain ⟨c1, d1⟩ := blk1 (HB.out _ hb2).2.1; obtain ⟨c2, d2⟩ := blk1 (HB.out _ hb2).2.2; have hz2 := hb2.size; have n1 : ¬ w2.heap.size = w.heap.size + 1 := (by omega); have n2 : ¬ w.heap.size + 1 = w2.heap.size := (by omega))
    go_region
    go_wp2_with fail
    have hfin := H1.out.trans (hb2.mono hs1)
    refine bodyPost_ret (results_dpe rfl _ _ (w.heap.size + 1) (.int .i64 A.line) (.int .i64 A.col) rfl (by rw [drew_heap]; simp [heap_set, putIn, heap_old _ _ (HB.out _ hb2).2.1])) rfl ?_
    exact DocPB.same HR.out H.out (by (repeat' (first | (with_reducible exact Below.refl _ _) | (with_reducible assumption) | (with_reducible refine Below.alloc ?_ ?_ _) | (with_reducible refine Below.drew ?_) | (with_reducible refine drewN_below ?_) | (with_reducible refine Below.setCell ?_ ?_ _) | go_size))) HN.out
set_option maxRecDepth 100000 in
set_option maxHeartbeats 2000000 in
theorem typErase_any (v : Value) (s : St) (w : World) (S : Nat → Prop) (h : LinsR w S v s.lines) (he : EnvT w) (hs : Small s.lines) (hf : Fits s.lines) :
    Calls Tryz.prog 45 #[stV v s] w (StSaid (keyS s (eraseK s)) w) := by
  obtain ⟨W1, hW1, hB, hz, k0, k1⟩ := st_two w v s
  have HB : Hid (∀ W, Below W1.heap.size W1 W → W.heap[w.heap.size]? = some (.cells #[v, .int .i64 s.anc.line, .int .i64 s.anc.col, .int .i64 s.foc.line, .int .i64 s.foc.col, .int .i64 s.on, .int .i64 s.off] 26) ∧ W.heap[w.heap.size + 1]? = some (.cells #[.slice none 0 0, .int .i64 0, .int .i64 0, .int .i64 0, .int .i64 0, .int .i64 0, .int .i64 0] 26)) := Lib.hid fun W hW => ⟨heap_below hW k0, heap_below hW k1⟩
  have hs1 := hB.size
  have H1 := Lib.hid hB
  have HC := Lib.hid (emptied_any v s 110 #[.pointer (some ⟨w.heap.size, 0, none⟩)] (eraseK s) W1 S (h.below (rdLin_stable _) hB) (he.below hB) hs hf (enters_of Tryz.func110 (by kernel_rfl) rfl)
    (fun hm n W a c hW h1 h2 h3 => erase1_any (w.heap.size) v s n a c W (heap_below hW k0) h3 h2))
  obtain ⟨X, hX⟩ : ∃ X, keyS s (eraseK s) = X := ⟨_, rfl⟩
  rw [hX] at HC ⊢
  obtain ⟨p0, f0⟩ := blk k0
  obtain ⟨p1, f1⟩ := blk k1
  obtain ⟨va, vc, rfl⟩ := h.slice
  clear h he hs hf hX k0 k1 hB
  go_enter Tryz.func45, Tryz.ntmps45
  go_wp2_with (go_at_call 109; refine HC.out.mono ?_; intro e w2 hsaid; obtain ⟨v2, rfl, hv2, hb2⟩ := hsaid; obtain ⟨a2, c2, rfl⟩ := hv2.slice; have HV2 := Lib.hid hv2; clear hv2; obtain ⟨q2, g2⟩ := blk (HB.out _ hb2).2)
  refine bodyPost_ret (results_st_e rfl _ _ (w.heap.size + 1) (.slice a2 X.1.lines.length c2) (.int .i64 X.1.anc.line) (.int .i64 X.1.anc.col) (.int .i64 X.1.foc.line) (.int .i64 X.1.foc.col) (.int .i64 X.1.on) (.int .i64 X.1.off) (.int .i64 X.2) rfl rfl (by simp [heap_set, putIn, (HB.out _ hb2).2])) rfl ?_
  have hfin := H1.out.trans (hb2.mono hs1)
  have hv2 := HV2.out
  exact ⟨_, rfl, (SliceR.stable (rdLin_stable _) hv2 (by (repeat' (first | (with_reducible exact Keeps.refl _ _) | (with_reducible refine Keeps.set ?_ ?_ _) | (with_reducible refine Keeps.alloc ?_ _) | (with_reducible refine Keeps.drew ?_) | (first | fail) | (simp; omega)))) (fun b h _ => (by have h' := h; (try simp at h'); omega))), by (repeat' (first | (with_reducible exact Below.refl _ _) | (with_reducible assumption) | (with_reducible refine Below.alloc ?_ ?_ _) | (with_reducible refine Below.drew ?_) | (with_reducible refine drewN_below ?_) | (with_reducible refine Below.setCell ?_ ?_ _) | go_size))⟩
set_option maxRecDepth 100000 in
set_option maxHeartbeats 2000000 in
theorem typForth_any (v : Value) (s : St) (w : World) (S : Nat → Prop) (h : LinsR w S v s.lines) (he : EnvT w) (hs : Small s.lines) (hf : Fits s.lines) :
    Calls Tryz.prog 52 #[stV v s] w (StSaid (keyS s (forthK s)) w) := by
  obtain ⟨W1, hW1, hB, hz, k0, k1⟩ := st_two w v s
  have HB : Hid (∀ W, Below W1.heap.size W1 W → W.heap[w.heap.size]? = some (.cells #[v, .int .i64 s.anc.line, .int .i64 s.anc.col, .int .i64 s.foc.line, .int .i64 s.foc.col, .int .i64 s.on, .int .i64 s.off] 26) ∧ W.heap[w.heap.size + 1]? = some (.cells #[.slice none 0 0, .int .i64 0, .int .i64 0, .int .i64 0, .int .i64 0, .int .i64 0, .int .i64 0] 26)) := Lib.hid fun W hW => ⟨heap_below hW k0, heap_below hW k1⟩
  have hs1 := hB.size
  have H1 := Lib.hid hB
  have HC := Lib.hid (emptied_any v s 125 #[.pointer (some ⟨w.heap.size, 0, none⟩)] (forthK s) W1 S (h.below (rdLin_stable _) hB) (he.below hB) hs hf (enters_of Tryz.func125 (by kernel_rfl) rfl)
    (fun hm n W a c hW h1 h2 h3 => forth1_any (w.heap.size) v s n a c W (heap_below hW k0) h3 h2 ((he.below hB).below hW) (may_small (out_facts hm).1).1 (may_small (out_facts hm).1).2))
  obtain ⟨X, hX⟩ : ∃ X, keyS s (forthK s) = X := ⟨_, rfl⟩
  rw [hX] at HC ⊢
  obtain ⟨p0, f0⟩ := blk k0
  obtain ⟨p1, f1⟩ := blk k1
  obtain ⟨va, vc, rfl⟩ := h.slice
  clear h he hs hf hX k0 k1 hB
  go_enter Tryz.func52, Tryz.ntmps52
  go_wp2_with (go_at_call 109; refine HC.out.mono ?_; intro e w2 hsaid; obtain ⟨v2, rfl, hv2, hb2⟩ := hsaid; obtain ⟨a2, c2, rfl⟩ := hv2.slice; have HV2 := Lib.hid hv2; clear hv2; obtain ⟨q2, g2⟩ := blk (HB.out _ hb2).2)
  refine bodyPost_ret (results_st_e rfl _ _ (w.heap.size + 1) (.slice a2 X.1.lines.length c2) (.int .i64 X.1.anc.line) (.int .i64 X.1.anc.col) (.int .i64 X.1.foc.line) (.int .i64 X.1.foc.col) (.int .i64 X.1.on) (.int .i64 X.1.off) (.int .i64 X.2) rfl rfl (by simp [heap_set, putIn, (HB.out _ hb2).2])) rfl ?_
  have hfin := H1.out.trans (hb2.mono hs1)
  have hv2 := HV2.out
  exact ⟨_, rfl, (SliceR.stable (rdLin_stable _) hv2 (by (repeat' (first | (with_reducible exact Keeps.refl _ _) | (with_reducible refine Keeps.set ?_ ?_ _) | (with_reducible refine Keeps.alloc ?_ _) | (with_reducible refine Keeps.drew ?_) | (first | fail) | (simp; omega)))) (fun b h _ => (by have h' := h; (try simp at h'); omega))), by (repeat' (first | (with_reducible exact Below.refl _ _) | (with_reducible assumption) | (with_reducible refine Below.alloc ?_ ?_ _) | (with_reducible refine Below.drew ?_) | (with_reducible refine drewN_below ?_) | (with_reducible refine Below.setCell ?_ ?_ _) | go_size))⟩
end Go.Proofs.YtpndnbjpnajaaaaGreatDoor
namespace Go.Proofs.Qw
open Go.RowKit Go.Proofs.YtpndnbjpnajaaaaGreatDoor
def plainF (c : Int) : Int × Bool := if c = 9 ∨ c = 12 ∨ c = 13 then (32, true) else if c = 10 then (c, true) else (c, !(classF c == 1))
theorem plain_clean (c : Int) : (if (plainF c).2 = true then some (plainF c).1 else none) = cleanR c := by
  unfold plainF cleanR
  split
  · rfl
  · split
    · rename_i h; subst h; rfl
    · by_cases h : classF c = 1
      · rw [if_pos h]; simp [h]
      · rw [if_neg h]; simp [h]
end Go.Proofs.Qw
namespace Go.Proofs.YtpndnbjpnajaaaaGreatDoor
open Go.RowKit
open Go.Proofs.Qw
attribute [local go_sem] Oper.semAt_some
theorem rowRune : RowT Tryz.prog 59 21 1 := RowT.mk' (y := 4) Tryz.underlying59 (by kernel_rfl) (by decide) (z := .int .i32 0) (by decide)
theorem eltRune : Elt 21 1 (rdOf encRune) := elt_of _ (by decide) (fun _ => rfl) (fun x u hu => by simp [encRune] at hu; subst hu; rfl)
theorem oneV_rune (r : Int) : ∀ u ∈ [Value.int .i32 r], u.oneCell' = true := fun u hu => by simp at hu; subst hu; rfl
theorem plain_any (c : Int) (w : World) :
    Calls Tryz.prog 138 #[.int .i32 c] w fun e w' => e = .returned (.tuple #[.int .i32 (plainF c).1, .bool (plainF c).2]) ∧ w' = w := by
  have HC := Lib.hid (class_any c w)
  by_cases h9 : c = 9
  · subst h9
    clear HC
    go_enter Tryz.func138, Tryz.ntmps138
    go_wp2_with fail
    go_ret2
    rw [show plainF 9 = (32, true) from if_pos (by decide)]
    exact ⟨rfl, rfl⟩
  by_cases h12 : c = 12
  · subst h12
    clear HC
    go_enter Tryz.func138, Tryz.ntmps138
    go_wp2_with fail
    go_ret2
    rw [show plainF 12 = (32, true) from if_pos (by decide)]
    exact ⟨rfl, rfl⟩
  by_cases h13 : c = 13
  · subst h13
    clear HC
    go_enter Tryz.func138, Tryz.ntmps138
    go_wp2_with fail
    go_ret2
    rw [show plainF 13 = (32, true) from if_pos (by decide)]
    exact ⟨rfl, rfl⟩
  by_cases h10 : c = 10
  · subst h10
    clear HC
    go_enter Tryz.func138, Tryz.ntmps138
    go_wp2_with fail
    go_ret2
    rw [show plainF 10 = (10, true) from (if_neg (by decide)).trans (if_pos rfl)]
    exact ⟨rfl, rfl⟩
  have HR : Hid (plainF c = (c, !(classF c == 1))) := Lib.hid (by unfold plainF; rw [if_neg (by omega), if_neg h10])
  have b9 : (c == 9) = false := by simpa using h9
  have b12 : (c == 12) = false := by simpa using h12
  have b13 : (c == 13) = false := by simpa using h13
  have b10 : (c == 10) = false := by simpa using h10
  clear h9 h12 h13 h10
  generalize classF c = k at *
  go_enter Tryz.func138, Tryz.ntmps138
  go_wp2_with (go_at_call 202; refine HC.out.mono ?_; rintro e w' ⟨rfl, rfl⟩)
  go_ret2
  rw [HR.out]
  exact ⟨rfl, rfl⟩
theorem runesGo_width (s : ByteArray) : ∀ (f pos : Nat), (runesGo s f pos).length ≤ f
  | 0, _ => Nat.le_refl _
  | f + 1, pos => by
    unfold runesGo
    split
    · have := runesGo_width s f (pos + (Utf8.decode s pos).2)
      rw [List.length_cons]; omega
    · simp
theorem runesB_length (s : ByteArray) : (runesB s).length ≤ s.size := runesGo_width s _ _
set_option maxRecDepth 100000 in
set_option maxHeartbeats 4000000 in
theorem each_any (s : ByteArray) (g : Nat) (F : Int → Int × Bool) (eg : ∀ args w, (callFunc g args).run Tryz.prog w = .ok (.enter g args) w)
    (hF : ∀ c w, Calls Tryz.prog g #[.int .i32 c] w fun e w' => e = .returned (.tuple #[.int .i32 (F c).1, .bool (F c).2]) ∧ w' = w) (w : World) (hs : s.size ≤ 10000000) :
    Calls Tryz.prog 137 #[.string s, .func (.func g) #[] #[]] w fun e w' => ∃ v, e = .returned v ∧ RunesR true w' (fun b => w.heap.size ≤ b) v ((runesB s).filterMap fun c => if (F c).2 = true then some (F c).1 else none) ∧ Below w.heap.size w w' := by
  obtain ⟨G, hG⟩ : ∃ G : Int → Option Int, (fun c => if (F c).2 = true then some (F c).1 else none) = G := ⟨_, rfl⟩
  have HG : Hid (∀ c, G c = if (F c).2 = true then some (F c).1 else none) := Lib.hid fun c => by rw [← hG]
  rw [hG]
  have HF := Lib.hid hF
  clear hG hF
  go_enter Tryz.func137, Tryz.ntmps137
  go_wp2_with fail
  go_loopw [5] (fun l wr => ∃ (pos fuel : Nat) (acc : List Int), Hid (RunesR true wr (fun b => w.heap.size + 1 ≤ b) l acc) ∧ wr.heap[w.heap.size]? = some (.stringIter s pos) ∧ Hid (Below w.heap.size w wr) ∧ Hid (acc ++ (runesGo s fuel pos).filterMap G = (runesB s).filterMap G) ∧ s.size ≤ pos + fuel) (fun _ wr => s.size - wr.iterPos w.heap.size)
  case atStart => exact ⟨0, s.size, [], Lib.hid (SliceR.nil _ _ _ _ _ _), World.iter_heap w s 0, Lib.hid ((Below.refl _ _).alloc (Nat.le_refl _) _), Lib.hid rfl, by omega⟩
  case round =>
    obtain ⟨pos, fuel, acc, HO, hit, HB, HA, hfu⟩ := hrel
    have hsz : w.heap.size < wr.heap.size := (Array.getElem?_eq_some_iff.1 hit).1
    by_cases hp : pos < s.size
    · have hwd := Lib.decode_width_pos s pos hp
      have hd1 := decode_le s pos
      have hnx : ∀ ty, (Instr.next (.pointer (some ⟨w.heap.size, 0, none⟩)) true ty).run Tryz.prog wr = .ok (.tuple #[.bool true, .int .i64 pos, .int .i32 (Utf8.decode s pos).1]) (wr.iterAt w.heap.size s (pos + (Utf8.decode s pos).2)) := fun ty => Lib.run_next_any_at wr w.heap.size s pos ty hit hp
      have hit2 := Lib.iterAt_heap wr w.heap.size s pos (pos + (Utf8.decode s pos).2) hit
      have hbw2 := Lib.below_iterAt HB.out (k := w.heap.size) (Nat.le_refl _) s (pos + (Utf8.decode s pos).2)
      have hsz2 : (wr.iterAt w.heap.size s (pos + (Utf8.decode s pos).2)).heap.size = wr.heap.size := Lib.iterAt_size _ _ _ _
      have HO2 := Lib.hid (SliceR.stable (w' := wr.iterAt w.heap.size s (pos + (Utf8.decode s pos).2)) (S' := fun b => w.heap.size + 1 ≤ b) (rdOf_stable encRune) HO.out (Keeps.only (b := w.heap.size) hsz2 (fun d hd => Lib.iterAt_other _ _ _ _ _ hd) (by simp)) (fun _ h _ => h))
      obtain ⟨f, rfl⟩ : ∃ f, fuel = f + 1 := ⟨fuel - 1, by omega⟩
      have HA2 : Hid (acc ++ (((Utf8.decode s pos).1 : Int) :: runesGo s f (pos + (Utf8.decode s pos).2)).filterMap G = (runesB s).filterMap G) := Lib.hid (by have := HA.out; unfold runesGo at this; rw [if_pos hp] at this; exact this)
      obtain ⟨wi, hwi⟩ : ∃ wi, wr.iterAt w.heap.size s (pos + (Utf8.decode s pos).2) = wi := ⟨_, rfl⟩
      rw [hwi] at hnx hit2 hbw2 hsz2 HO2
      obtain ⟨c, hcc⟩ : ∃ c : Int, ((Utf8.decode s pos).1 : Int) = c := ⟨_, rfl⟩
      rw [hcc] at hnx HA2
      obtain ⟨pos', hpp⟩ : ∃ pos', pos + (Utf8.decode s pos).2 = pos' := ⟨_, rfl⟩
      have hpl : pos + 1 ≤ pos' := by omega
      rw [hpp] at hit2 HA2
      obtain ⟨r, t, hrt⟩ : ∃ r t, F c = (r, t) := ⟨_, _, rfl⟩
      have HFc : Hid (∀ W, Calls Tryz.prog g #[.int .i32 c] W fun e w' => e = .returned (.tuple #[.int .i32 r, .bool t]) ∧ w' = W) := Lib.hid fun W => by
        have := HF.out c W
        rw [hrt] at this
        exact this
      have hGc := HG.out c
      rw [hrt] at hGc
      have hm1 : (wi.iterPos w.heap.size) = pos' := by simp only [World.iterPos, hit2]
      have hm0 : (wr.iterPos w.heap.size) = pos := by simp only [World.iterPos, hit]
      have HB2 := Lib.hid hbw2
      have HIT := Lib.hid hit2
      have hlw : w.heap.size < wi.heap.size := (Array.getElem?_eq_some_iff.1 hit2).1
      have HM := Lib.hid (And.intro hm0 hm1)
      clear hit hit2 hbw2 HB HA HO HF HG hcc hpp hwi hrt hd1 hwd hm0 hm1 hsz2
      cases t
      · have HA3 : Hid (acc ++ (runesGo s f pos').filterMap G = (runesB s).filterMap G) := Lib.hid (by have := HA2.out; rw [List.filterMap_cons, hGc] at this; exact this)
        clear hGc
        go_wp2_with (go_at_fn g; refine (HFc.out _).mono ?_; rintro e w1 ⟨rfl, rfl⟩)
        go_roundw
        case rel => exact ⟨pos', f, acc, HO2, HIT.out, HB2, HA3, by omega⟩
        case measure => rw [HM.out.1, HM.out.2]; omega
      · have HA3 : Hid ((acc ++ [r]) ++ (runesGo s f pos').filterMap G = (runesB s).filterMap G) := Lib.hid (by have := HA2.out; rw [List.filterMap_cons, hGc] at this; simpa using this)
        have HL : Hid (acc.length + 1 ≤ 10000000) := Lib.hid (by
          have h1 := congrArg List.length HA3.out
          have h2 := List.length_filterMap_le G (runesB s)
          have h3 := runesB_length s
          simp only [List.length_append, List.length_singleton] at h1
          omega)
        clear hGc
        go_wp2_with (first
          | (go_at_fn g; refine (HFc.out _).mono ?_; rintro e w1 ⟨rfl, rfl⟩)
          | (at_builtin; refine wpList_append_R _ rfl _ _ 59 59 rfl rowRune eltRune (w.heap.size + 1) _ _ (xs := acc) (ys := [r]) (news := [.int .i32 r]) rfl rfl (SliceR.below (rdOf_stable _) HO2.out ((Below.refl _ _).alloc (Nat.le_refl _) _)) (by simp; omega) (src_at rowRune _ _ rfl (oneV_rune r) 1 rfl) (NewsR.one rfl rfl) (by have := HL.out; simp only [List.length_singleton]; omega) ?_; intro v' w2 hR hB' _ _; have HR := Lib.hid hR; have HB' := Lib.hid hB'; clear hR hB'))
        have hi2 := (HB'.out.block w.heap.size (Nat.lt_succ_self _)).trans (heap_old _ _ HIT.out)
        go_roundw
        case rel => exact ⟨pos', f, acc ++ [r], HR, hi2, Lib.hid ((HB2.out.alloc HB2.out.size _).trans (HB'.out.mono (Nat.le_succ _))), HA3, by omega⟩
        case measure => rw [HM.out.1]; simp only [World.iterPos, hi2]; omega
    · have hnx : ∀ ty, (Instr.next (.pointer (some ⟨w.heap.size, 0, none⟩)) true ty).run Tryz.prog wr = .ok (.tuple #[.bool false]) wr := fun ty => Lib.run_next_end_at wr w.heap.size s pos ty hit hp
      have HA2 : Hid (acc = (runesB s).filterMap G) := Lib.hid (by
        have := HA.out
        cases fuel with
        | zero => simpa [runesGo] using this
        | succ f => unfold runesGo at this; rw [if_neg hp] at this; simpa using this)
      clear HF HG HA hit
      go_wp2_with fail
      go_ret
      refine ⟨_, rfl, ?_, HB.out⟩
      rw [← HA2.out]
      exact SliceR.stable (rdOf_stable _) HO.out (Keeps.refl _ _) (fun b h _ => Nat.le_of_succ_le h)
theorem clean_any (s : ByteArray) (w : World) (hs : s.size ≤ 10000000) :
    Calls Tryz.prog 61 #[.string s] w fun e w' => ∃ v, e = .returned v ∧ RunesR true w' (fun b => w.heap.size ≤ b) v (cleanB s) ∧ Below w.heap.size w w' := by
  have HE := Lib.hid (each_any s 138 plainF (enters_of Tryz.func138 (by kernel_rfl) rfl) plain_any w hs)
  have e : (fun c => if (plainF c).2 = true then some (plainF c).1 else none) = cleanR := funext plain_clean
  rw [e] at HE
  clear e
  go_enter Tryz.func61, Tryz.ntmps61
  go_wp2_with (go_at_call 137; refine HE.out.mono ?_; rintro e w2 ⟨v, rfl, hv, hb⟩)
  go_ret
  exact ⟨_, rfl, hv, hb⟩
set_option maxRecDepth 100000 in
set_option maxHeartbeats 4000000 in
theorem cellsOf_any (s : ByteArray) (b : Int) (h : List UInt8) (w : World) (hs : s.size ≤ 10000000) :
    Calls Tryz.prog 128 #[.string s, .int .i64 b, .string ⟨h.toArray⟩] w fun e w' => ∃ v, e = .returned v ∧ CelsR true w' (fun b => w.heap.size ≤ b) v (cellsOf (cleanB s) b h) ∧ Below w.heap.size w w' := by
  have HRu := Lib.hid (clean_any s w hs)
  have hln : (cleanB s).length ≤ s.size := Nat.le_trans (List.length_filterMap_le _ _) (runesB_length s)
  obtain ⟨d, hd⟩ : ∃ d, cleanB s = d := ⟨_, rfl⟩
  rw [hd] at HRu hln ⊢
  clear hd
  go_enter Tryz.func128, Tryz.ntmps128
  go_wp2_with (go_at_call 61; refine HRu.out.mono ?_; rintro e w2 ⟨v2, rfl, hv2, hb2⟩; obtain ⟨a2, c2, rfl, hc2, hm2, hx2⟩ := runes_shape hv2; have HX := Lib.hid hx2; clear hv2 hx2)
  have HW2 := Lib.hid hb2
  unfold maxLen at hm2
  clear hb2
  go_loopw [7, 13] (fun out z wr => ∃ k : Nat, k ≤ d.length ∧ z = .int .i64 k ∧ Hid (CelsR true wr (fun b => w2.heap.size ≤ b) out (cellsOf (d.take k) b h)) ∧ Below w2.heap.size w2 wr) (fun _ z _ => d.length - (intOf z).toNat)
  case atStart => exact ⟨0, Nat.zero_le _, rfl, Lib.hid (SliceR.nil _ _ _ _ _ _), Below.refl _ _⟩
  case round =>
    obtain ⟨k, hk, rfl, HO, hb⟩ := hrel
    by_cases hlt : k < d.length
    · obtain ⟨x, hx, _⟩ := getOf d k hlt
      obtain ⟨b1, o1, rfl, hz1, hcell⟩ := HX.out k x hx
      have hcl := (hb.cell hz1).trans hcell
      have HT : Hid (cellsOf (d.take (k + 1)) b h = cellsOf (d.take k) b h ++ [⟨x, b, h⟩]) := Lib.hid (by unfold cellsOf; rw [take_some hx, List.map_append]; rfl)
      have HL : Hid ((cellsOf (d.take k) b h).length ≤ 10000000) := Lib.hid (by unfold cellsOf; rw [List.length_map, List.length_take]; omega)
      have i0 : (0 : Int) ≤ (k : Int) := Int.natCast_nonneg _
      have i1 : (k : Int) < (d.length : Int) := by omega
      have hbs := hb.size
      clear hx hz1 hcell
      go_wp2_with (at_builtin; refine wpList_append_R _ rfl _ _ 40 40 rfl rowCell eltCell w2.heap.size _ _ (xs := cellsOf (d.take k) b h) (ys := [(⟨x, b, h⟩ : Cel)]) (news := [.int .i32 x, .int .i64 b, .string ⟨h.toArray⟩]) rfl rfl (SliceR.below (rdOf_stable _) HO.out ((Below.refl _ _).alloc (Nat.le_refl _) _)) (by simp; omega) (src_at rowCell _ _ rfl (fun u hu => by simp at hu; rcases hu with rfl | rfl | rfl <;> rfl) 1 rfl) (NewsR.one rfl rfl) (by have := HL.out; simp only [List.length_singleton]; omega) ?_; intro v' w4 hR hB' _ _; rw [← HT.out] at hR; have HR := Lib.hid hR; have HB' := Lib.hid hB'; clear hR hB')
      go_roundw
      case rel => exact ⟨k + 1, hlt, by go_num, HR, (hb.alloc hbs _).trans HB'.out⟩
      case measure => simp [intOf]; omega
    · obtain rfl : k = d.length := by omega
      have HBB := Lib.hid hb
      clear hb
      go_wp2_with fail
      go_ret
      have h9 := HO.out
      rw [List.take_length] at h9
      exact ⟨_, rfl, SliceR.stable (rdOf_stable _) h9 (Keeps.refl _ _) (fun b h _ => Nat.le_trans HW2.out.size h), below_from HW2.out HBB.out⟩
end Go.Proofs.YtpndnbjpnajaaaaGreatDoor
namespace Go.Proofs.YtpndnbjpnajaaaaGreatDoor
open Go.RowKit
open Go.Proofs.Qw
attribute [local go_sem] Oper.semAt_some
set_option maxHeartbeats 1000000 in
theorem containsInts_any (v : Value) (d : List Int) (t : Int) (w : World) (S : Nat → Prop) (h : IntsR false w S v d) :
    Calls Tryz.prog 94 #[v, .int .i64 t] w fun e w' => e = .returned (.bool (d.any fun x => x == t)) ∧ w' = w := by
  have HC : Hid (Calls Tryz.prog 163 #[v, .int .i64 t] w fun e w' => ∃ r : Int, e = .returned (.int .i64 r) ∧ decide (0 ≤ r) = (d.any fun x => x == t) ∧ w' = w) := Lib.hid (by
    obtain ⟨a, c, rfl, hc, hm, hx⟩ := ints_shape h
    have HX := Lib.hid hx
    clear hx h
    unfold maxLen at hm
    go_enter Tryz.func163, Tryz.ntmps163
    go_wp2_with fail
    go_loopw [5, 8] (fun _ i wr => ∃ k : Nat, k ≤ d.length ∧ i = .int .i64 k ∧ Hid ((d.any fun x => x == t) = ((d.drop k).any fun x => x == t)) ∧ w = wr) (fun _ i _ => d.length - (intOf i).toNat)
    case atStart => exact ⟨0, Nat.zero_le _, rfl, Lib.hid rfl, rfl⟩
    case round =>
      obtain ⟨k, hk, rfl, HK, rfl⟩ := hrel
      have k0 : (0 : Int) ≤ (k : Int) := Int.natCast_nonneg _
      by_cases hlt : k < d.length
      · obtain ⟨x, hx, hd⟩ := getOf d k hlt
        obtain ⟨b, o, rfl, hz, c0⟩ := HX.out k x hx
        rw [hd, List.any_cons] at HK
        cases hq : x == t
        · have hq' : (t == x) = false := by rw [Bool.beq_comm]; exact hq
          rw [hq, Bool.false_or] at HK
          clear hx hd
          go_wp2_with fail
          go_roundw
          case rel => exact ⟨k + 1, hlt, by go_num, HK, by simp⟩
          case measure => simp [intOf]; omega
        · have hq' : (t == x) = true := by rw [Bool.beq_comm]; exact hq
          rw [hq, Bool.true_or] at HK
          clear hx hd
          go_wp2_with fail
          go_ret
          exact ⟨k, rfl, by rw [HK.out]; exact decide_eq_true k0, rfl⟩
      · obtain rfl : k = d.length := by omega
        rw [List.drop_length] at HK
        go_wp2_with fail
        go_ret
        exact ⟨-1, rfl, by rw [HK.out]; rfl, rfl⟩)
  obtain ⟨a, c, rfl⟩ := h.slice
  clear h
  generalize (d.any fun x => x == t) = R at *
  go_enter Tryz.func94, Tryz.ntmps94
  go_wp2_with (go_at_call 163; refine HC.out.mono ?_; rintro e w1 ⟨r, rfl, hr, rfl⟩; have HRR := Lib.hid hr; clear hr)
  go_ret
  rw [← HRR.out]
  exact ⟨rfl, rfl⟩
theorem four_any (t : Int) : ([1, 2, 4, 8].any fun x => x == t) = four t := by
  unfold four
  rw [Bool.eq_iff_iff]
  simp only [List.any_cons, List.any_nil, Bool.or_eq_true, beq_iff_eq, decide_eq_true_eq, Bool.or_false]
  omega
set_option maxRecDepth 100000 in
set_option maxHeartbeats 2000000 in
theorem styToggle1_any (Bt : Nat) (v : Value) (d : Doc) (a b : Ps) (t : Int) (w : World) (S : Nat → Prop) (h : LinsR w S v d) (he : EnvT w) (hs : Small d) (hf : Fits d) (ht : w.heap[Bt]? = some (.cells #[.int .i64 t] 3)) :
    Calls Tryz.prog 96 #[v, posV a, posV b, .pointer (some ⟨Bt, 0, none⟩)] w (DocSaid (if allL (cellsD d a b) t = true then setD 0 t d a b else setD t 0 d a b) w) := by
  obtain ⟨W1, hW1, hB, hz, k0, k1⟩ := two_pos w (.int .i64 a.line) (.int .i64 a.col) (.int .i64 b.line) (.int .i64 b.col)
  have kt := heap_below hB ht
  have HB : Hid (∀ W, Below W1.heap.size W1 W → W.heap[w.heap.size]? = some (.cells #[.int .i64 a.line, .int .i64 a.col] 24) ∧ W.heap[w.heap.size + 1]? = some (.cells #[.int .i64 b.line, .int .i64 b.col] 24) ∧ W.heap[Bt]? = some (.cells #[.int .i64 t] 3)) := Lib.hid fun W hW => ⟨heap_below hW k0, heap_below hW k1, heap_below hW kt⟩
  have hs1 := hB.size
  have H1 := Lib.hid hB
  have hw0 : Below W1.heap.size W1 W1 := Below.refl _ _
  have HV : Hid (∀ W, Below W1.heap.size W1 W → LinsR W S v d) := Lib.hid fun W hW => h.below (rdLin_stable _) (hB.trans (hW.mono hs1))
  have HE : Hid (∀ W, Below W1.heap.size W1 W → EnvT W) := Lib.hid fun W hW => (he.below hB).below hW
  have HAl : Hid (∀ W, Below W1.heap.size W1 W → Calls Tryz.prog 81 #[v, .agg #[.int .i64 a.line, .int .i64 a.col], .agg #[.int .i64 b.line, .int .i64 b.col], .int .i64 t] W fun e w' => e = .returned (.bool (allL (cellsD d a b) t)) ∧ Below W.heap.size W w') := Lib.hid fun W hW => by
    have := docAll_any v d a b t W S _ rfl (HV.out W hW) (HE.out W hW) hs
    rw [all_count'] at this
    exact this
  have HSe : Hid (∀ (x y : Int) W, Below W1.heap.size W1 W → Calls Tryz.prog 97 #[v, .agg #[.int .i64 a.line, .int .i64 a.col], .agg #[.int .i64 b.line, .int .i64 b.col], .int .i64 x, .int .i64 y] W (DocSaid (setD x y d a b) W)) := Lib.hid fun x y W hW => docSet_any v d a b x y W S (HV.out W hW) (HE.out W hW) hs hf
  have HP : Hid (∀ p : Ps, posV p = .agg #[.int .i64 p.line, .int .i64 p.col]) := Lib.hid fun _ => rfl
  obtain ⟨p0, f0⟩ := blk k0
  obtain ⟨p1, f1⟩ := blk k1
  obtain ⟨p2, f2⟩ := blk kt
  obtain ⟨va, vc, rfl⟩ := h.slice
  rw [HP.out a, HP.out b]
  generalize allL (cellsD d a b) t = r at *
  clear h he hs hf k0 k1 kt ht hB
  cases r
  · rw [if_neg (by simp)]
    go_enter Tryz.func96, Tryz.ntmps96
    go_wp2_with (first
      | (go_at_call 81; refine (HAl.out _ hw0).mono ?_; rintro e w2 ⟨rfl, hst2⟩; have hb2 := below_from hw0 hst2; obtain ⟨q0, g0⟩ := blk (HB.out _ hb2).1; obtain ⟨q1, g1⟩ := blk (HB.out _ hb2).2.1; obtain ⟨q2, g2⟩ := blk (HB.out _ hb2).2.2)
      | (go_at_call 97; refine (HSe.out _ _ _ hb2).mono ?_; intro e w3 hsaid; have hsaid := DocSaid.from hsaid (H1.out.trans (hb2.mono hs1)); obtain ⟨v3, rfl, hv3, hb3⟩ := hsaid))
    go_ret2
    exact ⟨_, rfl, hv3, hb3⟩
  · rw [if_pos rfl]
    go_enter Tryz.func96, Tryz.ntmps96
    go_wp2_with (first
      | (go_at_call 81; refine (HAl.out _ hw0).mono ?_; rintro e w2 ⟨rfl, hst2⟩; have hb2 := below_from hw0 hst2; obtain ⟨q0, g0⟩ := blk (HB.out _ hb2).1; obtain ⟨q1, g1⟩ := blk (HB.out _ hb2).2.1; obtain ⟨q2, g2⟩ := blk (HB.out _ hb2).2.2)
      | (go_at_call 97; refine (HSe.out _ _ _ hb2).mono ?_; intro e w3 hsaid; have hsaid := DocSaid.from hsaid (H1.out.trans (hb2.mono hs1)); obtain ⟨v3, rfl, hv3, hb3⟩ := hsaid))
    go_ret2
    exact ⟨_, rfl, hv3, hb3⟩
set_option maxRecDepth 100000 in
set_option maxHeartbeats 2000000 in
theorem styLink1_any (Bt : Nat) (v : Value) (d : Doc) (a b : Ps) (hr : List UInt8) (w : World) (S : Nat → Prop) (h : LinsR w S v d) (he : EnvT w) (hs : Small d) (hf : Fits d) (hh : hr.length ≤ 1000000) (ht : w.heap[Bt]? = some (.cells #[.string ⟨hr.toArray⟩] 9)) :
    Calls Tryz.prog 98 #[v, posV a, posV b, .pointer (some ⟨Bt, 0, none⟩)] w (DocSaid (if targetF hr = true then linkD hr d a b else ([], 1)) w) := by
  obtain ⟨W1, hW1, hB, hz, k0, k1⟩ := two_pos w (.int .i64 a.line) (.int .i64 a.col) (.int .i64 b.line) (.int .i64 b.col)
  have kt := heap_below hB ht
  have HB : Hid (∀ W, Below W1.heap.size W1 W → W.heap[w.heap.size]? = some (.cells #[.int .i64 a.line, .int .i64 a.col] 24) ∧ W.heap[w.heap.size + 1]? = some (.cells #[.int .i64 b.line, .int .i64 b.col] 24) ∧ W.heap[Bt]? = some (.cells #[.string ⟨hr.toArray⟩] 9)) := Lib.hid fun W hW => ⟨heap_below hW k0, heap_below hW k1, heap_below hW kt⟩
  have hs1 := hB.size
  have H1 := Lib.hid hB
  have hw0 : Below W1.heap.size W1 W1 := Below.refl _ _
  have HV : Hid (∀ W, Below W1.heap.size W1 W → LinsR W S v d) := Lib.hid fun W hW => h.below (rdLin_stable _) (hB.trans (hW.mono hs1))
  have HE : Hid (∀ W, Below W1.heap.size W1 W → EnvT W) := Lib.hid fun W hW => (he.below hB).below hW
  have HAl : Hid (∀ W, Below W1.heap.size W1 W → Calls Tryz.prog 99 #[.string ⟨hr.toArray⟩] W fun e w' => e = .returned (.bool (targetF hr)) ∧ Below W.heap.size W w') := Lib.hid fun W hW => target_any ⟨hr.toArray⟩ W (HE.out W hW) (by show hr.toArray.size ≤ _; simpa using hh)
  have HSe : Hid (∀ W, Below W1.heap.size W1 W → Calls Tryz.prog 100 #[v, .agg #[.int .i64 a.line, .int .i64 a.col], .agg #[.int .i64 b.line, .int .i64 b.col], .string ⟨hr.toArray⟩] W (DocSaid (linkD hr d a b) W)) := Lib.hid fun W hW => docLink_any v d a b hr W S (HV.out W hW) (HE.out W hW) hs hf hh
  have HP : Hid (∀ p : Ps, posV p = .agg #[.int .i64 p.line, .int .i64 p.col]) := Lib.hid fun _ => rfl
  obtain ⟨p0, f0⟩ := blk k0
  obtain ⟨p1, f1⟩ := blk k1
  obtain ⟨p2, f2⟩ := blk kt
  obtain ⟨va, vc, rfl⟩ := h.slice
  rw [HP.out a, HP.out b]
  generalize targetF hr = r at *
  clear h he hs hf hh k0 k1 kt ht hB
  cases r
  · rw [if_neg (by simp)]
    go_enter Tryz.func98, Tryz.ntmps98
    go_wp2_with ((go_at_call 99; refine (HAl.out _ hw0).mono ?_; rintro e w2 ⟨rfl, hst2⟩; have hb2 := below_from hw0 hst2; skip))
    go_ret2
    exact ⟨_, rfl, SliceR.nil _ _ _ _ _ _, H1.out.trans (hb2.mono hs1)⟩
  · rw [if_pos rfl]
    go_enter Tryz.func98, Tryz.ntmps98
    go_wp2_with (first
      | (go_at_call 99; refine (HAl.out _ hw0).mono ?_; rintro e w2 ⟨rfl, hst2⟩; have hb2 := below_from hw0 hst2; obtain ⟨q0, g0⟩ := blk (HB.out _ hb2).1; obtain ⟨q1, g1⟩ := blk (HB.out _ hb2).2.1; obtain ⟨q2, g2⟩ := blk (HB.out _ hb2).2.2)
      | (go_at_call 100; refine (HSe.out _ hb2).mono ?_; intro e w3 hsaid; have hsaid := DocSaid.from hsaid (H1.out.trans (hb2.mono hs1)); obtain ⟨v3, rfl, hv3, hb3⟩ := hsaid))
    go_ret2
    exact ⟨_, rfl, hv3, hb3⟩
theorem st_val_st (w : World) (v : Value) (s : St) (u : Value) (t : TypeId) : ∃ W1, ((w.alloc (.cells #[v, .int .i64 s.anc.line, .int .i64 s.anc.col, .int .i64 s.foc.line, .int .i64 s.foc.col, .int .i64 s.on, .int .i64 s.off] 26)).alloc (.cells #[u] t)).alloc (.cells #[.slice none 0 0, .int .i64 0, .int .i64 0, .int .i64 0, .int .i64 0, .int .i64 0, .int .i64 0] 26) = W1 ∧ Below w.heap.size w W1 ∧ w.heap.size + 3 = W1.heap.size ∧
    W1.heap[w.heap.size]? = some (.cells #[v, .int .i64 s.anc.line, .int .i64 s.anc.col, .int .i64 s.foc.line, .int .i64 s.foc.col, .int .i64 s.on, .int .i64 s.off] 26) ∧ W1.heap[w.heap.size + 1]? = some (.cells #[u] t) ∧ W1.heap[w.heap.size + 2]? = some (.cells #[.slice none 0 0, .int .i64 0, .int .i64 0, .int .i64 0, .int .i64 0, .int .i64 0, .int .i64 0] 26) :=
  ⟨_, rfl, below3 (Below.refl _ _) _ _ _, by simp, heap_old _ _ (heap_old _ _ (heap_new _ _ rfl)), heap_old _ _ (heap_new _ _ (by simp)), heap_new _ _ (by simp)⟩
set_option maxRecDepth 100000 in
set_option maxHeartbeats 2000000 in
theorem styLink_any (v : Value) (s : St) (hr : List UInt8) (w : World) (S : Nat → Prop) (h : LinsR w S v s.lines) (he : EnvT w) (hs : Small s.lines) (hf : Fits s.lines) (hh : hr.length ≤ 1000000) :
    Calls Tryz.prog 30 #[stV v s, .string ⟨hr.toArray⟩] w (StSaid (changedS s (linkL s hr)) w) := by
  obtain ⟨W1, hW1, hB, hz, k0, k1, k2⟩ := st_val_st w v s (.string ⟨hr.toArray⟩) 9
  have HB : Hid (∀ W, Below W1.heap.size W1 W → W.heap[w.heap.size]? = some (.cells #[v, .int .i64 s.anc.line, .int .i64 s.anc.col, .int .i64 s.foc.line, .int .i64 s.foc.col, .int .i64 s.on, .int .i64 s.off] 26) ∧ W.heap[w.heap.size + 2]? = some (.cells #[.slice none 0 0, .int .i64 0, .int .i64 0, .int .i64 0, .int .i64 0, .int .i64 0, .int .i64 0] 26)) := Lib.hid fun W hW => ⟨heap_below hW k0, heap_below hW k2⟩
  have hs1 := hB.size
  have H1 := Lib.hid hB
  have HC := Lib.hid (styChanged_any v s 98 #[.pointer (some ⟨w.heap.size + 1, 0, none⟩)] (linkL s hr) W1 S (h.below (rdLin_stable _) hB) (he.below hB) hs (enters_of Tryz.func98 (by kernel_rfl) rfl)
    (fun _ W hW => styLink1_any (w.heap.size + 1) v s.lines (spanS s).1 (spanS s).2 hr W S (h.below (rdLin_stable _) (hB.trans (hW.mono hs1))) ((he.below hB).below hW) hs hf hh (heap_below hW k1)))
  obtain ⟨X, hX⟩ : ∃ X, changedS s (linkL s hr) = X := ⟨_, rfl⟩
  rw [hX] at HC ⊢
  obtain ⟨p0, f0⟩ := blk k0
  obtain ⟨p1, f1⟩ := blk k1
  obtain ⟨p2, f2⟩ := blk k2
  obtain ⟨va, vc, rfl⟩ := h.slice
  clear h he hs hf hh hX k0 k1 k2 hB
  go_enter Tryz.func30, Tryz.ntmps30
  go_wp2_with (go_at_call 95; refine HC.out.mono ?_; intro e w2 hsaid; obtain ⟨v2, rfl, hv2, hb2⟩ := hsaid; obtain ⟨a2, c2, rfl⟩ := hv2.slice; have HV2 := Lib.hid hv2; clear hv2; obtain ⟨q2, g2⟩ := blk (HB.out _ hb2).2)
  refine bodyPost_ret (results_st_e rfl _ _ (w.heap.size + 2) (.slice a2 X.1.lines.length c2) (.int .i64 X.1.anc.line) (.int .i64 X.1.anc.col) (.int .i64 X.1.foc.line) (.int .i64 X.1.foc.col) (.int .i64 X.1.on) (.int .i64 X.1.off) (.int .i64 X.2) rfl rfl (by simp [heap_set, putIn, (HB.out _ hb2).2])) rfl ?_
  have hfin := H1.out.trans (hb2.mono hs1)
  have hv2 := HV2.out
  exact ⟨_, rfl, (SliceR.stable (rdLin_stable _) hv2 (by (repeat' (first | (with_reducible exact Keeps.refl _ _) | (with_reducible refine Keeps.set ?_ ?_ _) | (with_reducible refine Keeps.alloc ?_ _) | (with_reducible refine Keeps.drew ?_) | (first | fail) | (simp; omega)))) (fun b h _ => (by have h' := h; (try simp at h'); omega))), by (repeat' (first | (with_reducible exact Below.refl _ _) | (with_reducible assumption) | (with_reducible refine Below.alloc ?_ ?_ _) | (with_reducible refine Below.drew ?_) | (with_reducible refine drewN_below ?_) | (with_reducible refine Below.setCell ?_ ?_ _) | go_size))⟩
end Go.Proofs.YtpndnbjpnajaaaaGreatDoor
