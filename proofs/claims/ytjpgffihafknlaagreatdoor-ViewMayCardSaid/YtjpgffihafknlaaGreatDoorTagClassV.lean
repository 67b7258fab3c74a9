/- What a node says may be; it has its characters; each place is in it: plainly. -/
import Derived.Test.YtjpgffihafknlaaGreatDoorRefViewV
import Derived.Test.YtjpgffihafknlaaGreatDoorOpenPntV
import Derived.Deep.RegionHeld3
import Derived.Deep.DrawnRows
import Derived.Lib.AppendZeros
import Derived.Shelf.AbstractIn
import Derived.StillTailTactics
import Derived.Deep.Cut
import Derived.Deep.CutRange
set_option linter.unusedVariables false
set_option linter.unusedSimpArgs false
namespace Go.Proofs.Qw
open Go.RowKit
theorem kidsV_nil (i : Nat) (a : Aro) (p : Plc) (s : VSt) : kidsV [] i a p s = (match p with | some ([], _) => metV s | _ => s) := by rw [kidsV.eq_def] <;> rfl
theorem kidsV_cons (n : Nod) (ks : List Nod) (i : Nat) (a : Aro) (p : Plc) (s : VSt) : kidsV (n :: ks) i a p s = kidsV ks (i + 1) a p (match p with | none => nodeV n a none s | some ([], k) => nodeV n a none (if k = (i : Int) then metV s else s) | some (j :: q, k) => if j = (i : Int) then nodeV n a (some (q, k)) s else nodeV n a none s) := by rw [kidsV.eq_def] <;> rfl
theorem textV_nil (a : Aro) (k : Option Int) (s : VSt) : textV a [] k s = (match k with | some k => if 0 ≤ k then metV s else s | none => s) := by rw [textV.eq_def] <;> rfl
theorem textV_cons (a : Aro) (c : Int) (l : List Int) (k : Option Int) (s : VSt) : textV a (c :: l) k s = textV a l (k.map (· - 1)) (match flatC c with | some c => putV a c (if k = some 0 then metV s else s) | none => if k = some 0 then metV s else s) := by rw [textV.eq_def] <;> rfl
theorem getD_app {α : Type} [Inhabited α] (d m : List α) (k : Nat) (h : k < d.length) : (d ++ m).getD k default = d.getD k default := by
 rw [List.getD_eq_getElem?_getD, List.getD_eq_getElem?_getD, List.getElem?_append_left h]
mutual
def cellsN : Nod → Nat
 | .mk t _ x ks => if tagC t = 1 then ((runesB ⟨x.toArray⟩).filterMap flatC).length else if tagC t = 5 then 1 else cellsK ks
def cellsK : List Nod → Nat
 | [] => 0
 | k :: ks => cellsN k + cellsK ks
end
def AroG (a : Aro) : Prop := AroOk a ∧ a.lists.length ≤ 6 ∧ (∀ k ∈ a.lists, k = 0 ∨ k = 1) ∧ 0 ≤ a.kind ∧ a.kind ≤ 3 ∧ linkF a.href = true
theorem frame_may {a : Aro} (h : AroG a) : mayL (frameA a) = true := by
 obtain ⟨⟨h1, h2, _, _⟩, h3, h4, h5, h6, _⟩ := h
 unfold mayL frameA
 have : (a.lists.all fun k => decide (k = 0 ∨ k = 1)) = true := by rw [List.all_eq_true]; intro k hk; exact decide_eq_true (h4 k hk)
 by_cases he : a.lists = []
 ·simp [he, h1, h2, h5, h6, mayCs]
 ·simp only [he, if_false, this]
  simp [h1, h2, h3, mayCs]
theorem linkN_ok (n : Nod) {h : List UInt8} (hh : linkF h = true) : linkF (linkN n h) = true := by
 unfold linkN
 split
 ·split
  ·rename_i h1
   unfold linkF
   rw [h1.2]
   simp
  ·exact hh
 ·exact hh
theorem inner_good (n : Nod) {a : Aro} (h : AroG a) : AroG (innerA n a) := by
 obtain ⟨h0, h3, h4, h5, h6, h7⟩ := h
 refine ⟨inner_ok n h0, ?_⟩
 unfold innerA
 split
 ·exact ⟨h3, h4, h5, h6, linkN_ok n h7⟩
 ·split
  ·refine ⟨h3, h4, ?_, ?_, h7⟩ <;> simp only [headT] <;> split <;> omega
  ·split
   ·unfold boxR
    simp only
    split <;> split
    all_goals
     rename_i g1 g2
     first
      | exact ⟨h3, h4, h5, h6, h7⟩
      | (refine ⟨?_, ?_, h5, h6, h7⟩
         · simp only [List.length_append, List.length_singleton]; (try simp only at g2); omega
         · intro k hk
           simp only [List.mem_append, List.mem_singleton] at hk
           rcases hk with hk | rfl
           · exact h4 k hk
           · omega)
   ·exact ⟨h3, h4, h5, h6, h7⟩
theorem aro0_good : AroG aro0 := ⟨aro0_ok, by decide, by simp [aro0], by decide, by decide, by unfold linkF; simp [aro0]⟩
structure VOk (s : VSt) : Prop where
 may : ∀ l ∈ s.lines, mayL l = true
 some : s.opn = true → s.lines ≠ []
 cells : s.cells = sizeL s.lines
 spot : s.spot = 0 ∨ s.spot = 1 ∨ (s.spot = 2 ∧ isD s.lines s.pos = true)
theorem isD_grow {d : List Lin} {p : Ps} (h : isD d p = true) (l : Lin) : isD (d ++ [l]) p = true := by
 unfold isD at *
 simp only [Bool.and_eq_true, decide_eq_true_eq, List.length_append, List.length_singleton] at *
 obtain ⟨⟨⟨h1, h2⟩, h3⟩, h4⟩ := h
 refine ⟨⟨⟨h1, by omega⟩, h3⟩, ?_⟩
 rw [getD_app _ _ _ (by omega)]
 exact h4
theorem isD_put {d : List Lin} {p : Ps} (h : isD d p = true) (c : Cel) : isD (addE c d) p = true := by
 by_cases hn : d = []
 ·subst hn; exact h
 obtain ⟨m, l, rfl⟩ : ∃ m l, d = m ++ [l] := ⟨d.dropLast, d.getLast hn, (List.dropLast_concat_getLast hn).symm⟩
 have e : addE c (m ++ [l]) = m ++ [{ l with cells := l.cells ++ [c] }] := by unfold addE lastD; simp
 rw [e]
 unfold isD at *
 simp only [Bool.and_eq_true, decide_eq_true_eq, List.length_append, List.length_singleton] at *
 obtain ⟨⟨⟨h1, h2⟩, h3⟩, h4⟩ := h
 refine ⟨⟨⟨h1, h2⟩, h3⟩, ?_⟩
 by_cases hl : p.line.toNat < m.length
 ·rw [getD_app _ _ _ hl] at h4 ⊢
  exact h4
 ·have e1 : p.line.toNat = m.length := by omega
  simp only [List.getD_eq_getElem?_getD, e1, List.getElem?_concat_length, Option.getD_some, List.length_append, List.length_singleton] at h4 ⊢
  omega
theorem vok_begin {a : Aro} (ha : AroG a) {s : VSt} (h : VOk s) : VOk (beginV a s) := by
 refine ⟨?_, fun _ => by simp [beginV], ?_, ?_⟩
 ·unfold beginV
  simp only [List.mem_append, List.mem_singleton]
  rintro l (hl | rfl)
  ·exact h.may l hl
  ·exact frame_may ha
 ·unfold beginV
  simp only [h.cells, sizeL, List.map_append, List.sum_append]
  simp [frameA]
 ·unfold beginV
  rcases h.spot with h1 | h1 | ⟨h1, h2⟩
  ·left; simp [h1]
  ·right; right
   simp only [h1, if_true]
   refine ⟨trivial, ?_⟩
   unfold isD
   simp
   omega
  ·right; right
   simp only [h1]
   exact ⟨rfl, isD_grow h2 _⟩
theorem vok_add {a : Aro} (ha : AroG a) {c : Int} (hc : mayR c = true ∨ c = 10) {s : VSt} (h : VOk s) (ho : s.opn = true) : VOk (addV a c s) := by
 have hs := lastD_size ⟨c, a.bits, a.href⟩ (h.some ho)
 have e : (addV a c s).lines = addE ⟨c, a.bits, a.href⟩ s.lines := rfl
 have hm : mayC ⟨c, a.bits, a.href⟩ = true := by
  unfold mayC
  have := ha.1
  simp only [Bool.and_eq_true, Bool.or_eq_true, decide_eq_true_eq]
  exact ⟨⟨⟨hc, this.2.2.1⟩, this.2.2.2⟩, ha.2.2.2.2.2⟩
 refine ⟨?_, fun _ => hs.2, ?_, ?_⟩
 ·rw [e]
  have hn := h.some ho
  obtain ⟨m, l, hd⟩ : ∃ m l, s.lines = m ++ [l] := ⟨s.lines.dropLast, s.lines.getLast hn, (List.dropLast_concat_getLast hn).symm⟩
  have hmay := h.may
  rw [hd] at hmay ⊢
  have e2 : addE ⟨c, a.bits, a.href⟩ (m ++ [l]) = m ++ [{ l with cells := l.cells ++ [⟨c, a.bits, a.href⟩] }] := by unfold addE lastD; simp
  rw [e2]
  intro x hx
  rcases List.mem_append.1 hx with hx | hx
  ·exact hmay x (by simp [hx])
  ·rw [List.mem_singleton.1 hx]
   have := hmay l (by simp)
   unfold mayL mayCs at this ⊢
   simp only [List.all_append, List.all_cons, List.all_nil, hm, Bool.and_true] at this ⊢
   exact this
 ·have := h.cells
  have := hs.1
  show s.cells + 1 = sizeL (addE ⟨c, a.bits, a.href⟩ s.lines)
  omega
 ·rcases h.spot with h1 | h1 | ⟨h1, h2⟩
  ·exact .inl h1
  ·exact .inr (.inl h1)
  ·exact .inr (.inr ⟨h1, isD_put h2 _⟩)
theorem vok_put {a : Aro} (ha : AroG a) {c : Int} (hc : mayR c = true ∨ c = 10) {s : VSt} (h : VOk s) : VOk (putV a c s) := by
 unfold putV
 split
 ·rename_i ho; exact vok_add ha hc h ho
 ·exact vok_add ha hc (vok_begin ha h) rfl
theorem end_is {d : List Lin} (h : d ≠ []) : isD d ⟨(d.length : Int) - 1, ((d.getLastD default).cells.length : Int)⟩ = true := by
 obtain ⟨m, l, rfl⟩ : ∃ m l, d = m ++ [l] := ⟨d.dropLast, d.getLast h, (List.dropLast_concat_getLast h).symm⟩
 unfold isD
 simp only [Bool.and_eq_true, decide_eq_true_eq, List.length_append, List.length_singleton]
 have e : ((m.length + 1 : Nat) : Int) - 1 = (m.length : Int) := by omega
 rw [e]
 refine ⟨⟨⟨by omega, by omega⟩, by omega⟩, ?_⟩
 simp [List.getD_eq_getElem?_getD]
theorem vok_met {s : VSt} (h : VOk s) : VOk (metV s) := by
 unfold metV
 split
 ·exact h
 ·split
  ·rename_i ho
   exact ⟨h.may, h.some, h.cells, .inr (.inr ⟨rfl, end_is (h.some ho)⟩)⟩
  ·exact ⟨h.may, h.some, h.cells, .inr (.inl rfl)⟩
theorem vok_close {s : VSt} (h : VOk s) : VOk { s with opn := false } := ⟨h.may, (fun e => by cases e), h.cells, h.spot⟩
theorem flat_mayR {c k : Int} (h0 : classF c ≠ 0) (h : flatC c = some k) : mayR k = true := by
 unfold flatC at h
 unfold mayR
 split at h
 ·cases h; rw [classF_32]; decide
 ·split at h
  ·cases h
  ·cases h
   have := classF_ge c
   simp only [decide_eq_true_eq]
   omega
theorem vok_text {a : Aro} (ha : AroG a) : ∀ (l : List Int) (k : Option Int) (s : VSt), (∀ c ∈ l, classF c ≠ 0) → VOk s → VOk (textV a l k s)
 | [], k, s, _, h => by
  rw [textV_nil]
  cases k with
  | none => exact h
  | some k => simp only; split; exact vok_met h; exact h
 | c :: l, k, s, hc, h => by
  rw [textV_cons]
  refine vok_text ha l _ _ (fun x hx => hc x (by simp [hx])) ?_
  have h1 : VOk (if k = some 0 then metV s else s) := by split; exact vok_met h; exact h
  cases hf : flatC c with
  | none => exact h1
  | some x => exact vok_put ha (.inl (flat_mayR (hc c (by simp)) hf)) h1
theorem vok_node (n : Nod) : ∀ a p s, AroG a → VOk s → VOk (nodeV n a p s) := by
 refine Nod.rec (motive_1 := fun n => ∀ a p s, AroG a → VOk s → VOk (nodeV n a p s)) (motive_2 := fun ks => ∀ i a p s, AroG a → VOk s → VOk (kidsV ks i a p s)) ?_ ?_ ?_ n
 ·intro t ats x ks ih a p s ha h
  by_cases h1 : tagC t = 1
  ·rw [nodeV]
   simp only [if_pos h1]
   exact vok_text ha _ _ _ (classF_runes _) h
  by_cases h5 : tagC t = 5
  ·rw [nodeV]
   simp only [if_neg h1, if_pos h5]
   refine vok_put ha (.inr rfl) ?_
   split
   ·exact vok_met h
   ·exact h
  rw [node_shape ha.1 h1 h5]
  have hi := inner_good (.mk t ats x ks) ha
  split
  ·unfold lineV
   simp only
   refine vok_close ?_
   split
   ·exact vok_begin hi (ih _ _ _ _ hi (vok_close h))
   ·exact ih _ _ _ _ hi (vok_close h)
  ·split
   ·exact vok_close (ih _ _ _ _ hi (vok_close h))
   ·exact ih _ _ _ _ hi h
 ·intro i a p s ha h
  rw [kidsV_nil]
  split
  ·exact vok_met h
  ·exact h
 ·intro n ks hn hks i a p s ha h
  rw [kidsV_cons]
  refine hks _ _ _ _ ha ?_
  split
  ·exact hn _ _ _ ha h
  ·refine hn _ _ _ ha ?_
   split
   ·exact vok_met h
   ·exact h
  ·split
   ·exact hn _ _ _ ha h
   ·exact hn _ _ _ ha h
def Sim (s s' : VSt) : Prop := s.lines = s'.lines ∧ s.cells = s'.cells ∧ s.opn = s'.opn
theorem sim_begin (a : Aro) {s s' : VSt} (h : Sim s s') : Sim (beginV a s) (beginV a s') := ⟨by simp only [beginV, h.1], h.2.1, rfl⟩
theorem sim_add (a : Aro) (c : Int) {s s' : VSt} (h : Sim s s') : Sim (addV a c s) (addV a c s') := ⟨by simp only [addV, h.1], by simp only [addV, h.2.1], h.2.2⟩
theorem sim_put (a : Aro) (c : Int) {s s' : VSt} (h : Sim s s') : Sim (putV a c s) (putV a c s') := by
 unfold putV
 rw [h.2.2]
 split
 ·exact sim_add a c h
 ·exact sim_add a c (sim_begin a h)
theorem sim_met (s : VSt) : Sim (metV s) s := by
 unfold metV
 split
 ·exact ⟨rfl, rfl, rfl⟩
 ·split <;> exact ⟨rfl, rfl, rfl⟩
theorem Sim.trans {a b c : VSt} (h : Sim a b) (k : Sim b c) : Sim a c := ⟨h.1.trans k.1, h.2.1.trans k.2.1, h.2.2.trans k.2.2⟩
theorem Sim.symm {a b : VSt} (h : Sim a b) : Sim b a := ⟨h.1.symm, h.2.1.symm, h.2.2.symm⟩
theorem sim_close {s s' : VSt} (h : Sim s s') : Sim { s with opn := false } { s' with opn := false } := ⟨h.1, h.2.1, rfl⟩
theorem sim_if (c : Prop) [Decidable c] (s : VSt) : Sim (if c then metV s else s) s := by split; exact sim_met s; exact ⟨rfl, rfl, rfl⟩
theorem sim_text (a : Aro) : ∀ (l : List Int) (k k' : Option Int) (s s' : VSt), Sim s s' → Sim (textV a l k s) (textV a l k' s')
 | [], k, k', s, s', h => by
  have e : ∀ (k : Option Int) (s : VSt), Sim (textV a [] k s) s := fun k s => by
   rw [textV_nil]
   cases k with
   | none => exact ⟨rfl, rfl, rfl⟩
   | some k => exact sim_if _ s
  exact ((e k s).trans h).trans (e k' s').symm
 | c :: l, k, k', s, s', h => by
  rw [textV_cons, textV_cons]
  refine sim_text a l _ _ _ _ ?_
  have h1 := ((sim_if (k = some 0) s).trans h).trans (sim_if (k' = some 0) s').symm
  cases flatC c with
  | none => exact h1
  | some x => exact sim_put a x h1
theorem sim_node (n : Nod) : ∀ a p p' s s', AroOk a → Sim s s' → Sim (nodeV n a p s) (nodeV n a p' s') := by
 refine Nod.rec (motive_1 := fun n => ∀ a p p' s s', AroOk a → Sim s s' → Sim (nodeV n a p s) (nodeV n a p' s')) (motive_2 := fun ks => ∀ i a p p' s s', AroOk a → Sim s s' → Sim (kidsV ks i a p s) (kidsV ks i a p' s')) ?_ ?_ ?_ n
 ·intro t ats x ks ih a p p' s s' ha h
  by_cases h1 : tagC t = 1
  ·rw [nodeV, nodeV]
   simp only [if_pos h1]
   exact sim_text a _ _ _ _ _ h
  by_cases h5 : tagC t = 5
  ·rw [nodeV, nodeV]
   simp only [if_neg h1, if_pos h5]
   exact sim_put a 10 (((sim_if _ s).trans h).trans (sim_if _ s').symm)
  rw [node_shape ha h1 h5, node_shape ha h1 h5]
  have hi := inner_ok (.mk t ats x ks) ha
  split
  ·unfold lineV
   simp only
   refine sim_close ?_
   have hk := ih 0 (innerA (.mk t ats x ks) a) (normP t ks.length p) (normP t ks.length p') _ _ hi (sim_close h)
   have hc : ∀ (x y : Nat) (_ : x = y) (a1 : Aro) (u v : VSt), Sim u v → u.lines.length = v.lines.length → Sim (if u.lines.length = x then beginV a1 u else u) (if v.lines.length = y then beginV a1 v else v) := by
    rintro x y rfl a1 u v huv e
    rw [e]
    split
    ·exact sim_begin _ huv
    ·exact huv
   exact hc _ _ (congrArg List.length h.1) _ _ _ hk (congrArg List.length hk.1)
  ·split
   ·exact sim_close (ih _ _ _ _ _ _ hi (sim_close h))
   ·exact ih _ _ _ _ _ _ hi h
 ·intro i a p p' s s' ha h
  have e : ∀ (p : Plc) (s : VSt), Sim (kidsV [] i a p s) s := fun p s => by
   rw [kidsV_nil]
   split
   ·exact sim_met s
   ·exact ⟨rfl, rfl, rfl⟩
  exact ((e p s).trans h).trans (e p' s').symm
 ·intro n ks hn hks i a p p' s s' ha h
  rw [kidsV_cons, kidsV_cons]
  refine hks _ _ _ _ _ _ ha ?_
  have e : ∀ (p : Plc) (s : VSt), Sim (match p with | none => nodeV n a none s | some ([], k) => nodeV n a none (if k = (i : Int) then metV s else s) | some (j :: q, k) => if j = (i : Int) then nodeV n a (some (q, k)) s else nodeV n a none s) (nodeV n a none s) := fun p s => by
   have hr : Sim s s := ⟨rfl, rfl, rfl⟩
   split
   ·exact hn _ _ _ _ _ ha hr
   ·exact hn _ _ _ _ _ ha (sim_if _ s)
   ·split
    ·exact hn _ _ _ _ _ ha hr
    ·exact hn _ _ _ _ _ ha hr
  exact ((e p s).trans (hn a none none _ _ ha h)).trans (e p' s').symm
theorem cells_text (a : Aro) : ∀ (l : List Int) (s : VSt), (textV a l none s).cells = s.cells + (l.filterMap flatC).length
 | [], s => by rw [textV_nil]; simp
 | c :: l, s => by
  rw [textV_cons]
  show (textV a l none _).cells = _
  rw [cells_text a l]
  have hp : ∀ (x : Int) (s : VSt), (putV a x s).cells = s.cells + 1 := fun x s => by
   unfold putV addV
   split
   ·rfl
   ·rfl
  cases hf : flatC c with
  | none => simp [hf]
  | some x =>
   simp [hf, hp]
   omega
theorem cells_node (n : Nod) : ∀ a s, AroOk a → (nodeV n a none s).cells = s.cells + cellsN n := by
 refine Nod.rec (motive_1 := fun n => ∀ a s, AroOk a → (nodeV n a none s).cells = s.cells + cellsN n) (motive_2 := fun ks => ∀ i a s, AroOk a → (kidsV ks i a none s).cells = s.cells + cellsK ks) ?_ ?_ ?_ n
 ·intro t ats x ks ih a s ha
  by_cases h1 : tagC t = 1
  ·rw [nodeV, cellsN]
   simp only [if_pos h1]
   exact cells_text a _ s
  by_cases h5 : tagC t = 5
  ·rw [nodeV, cellsN]
   simp only [if_neg h1, if_pos h5]
   have hn : normP t ks.length none = none := rfl
   rw [hn]
   unfold putV addV
   simp only [Option.isSome_none, Bool.false_eq_true, if_false]
   split <;> rfl
  rw [node_shape ha h1 h5, cellsN]
  simp only [if_neg h1, if_neg h5]
  have hn : normP t ks.length none = none := rfl
  rw [hn]
  have hi := inner_ok (.mk t ats x ks) ha
  split
  ·unfold lineV
   simp only
   have := ih 0 _ { s with opn := false } hi
   split
   ·unfold beginV; simp only; exact this
   ·exact this
  ·split
   ·exact ih 0 _ { s with opn := false } hi
   ·exact ih 0 _ s hi
 ·intro i a s ha
  rw [kidsV_nil, cellsK]
  rfl
 ·intro n ks hn hks i a s ha
  rw [kidsV_cons, cellsK]
  rw [hks _ _ _ ha]
  show (nodeV n a none s).cells + _ = _
  have := hn a s ha
  omega
theorem vok0 : VOk vst0 := ⟨by simp [vst0], (fun e => by cases e), rfl, .inl rfl⟩
theorem goes_ok (n : Nod) (p : Plc) : VOk (goesV n p) ∧ (goesV n p).lines ≠ [] := by
 unfold goesV
 simp only
 have h := vok_node n aro0 p vst0 aro0_good vok0
 split
 ·exact ⟨vok_begin aro0_good h, by simp [beginV]⟩
 ·rename_i hne; exact ⟨h, hne⟩
theorem goes_sim (n : Nod) (p : Plc) : Sim (goesV n p) (goesV n none) := by
 have h := sim_node n aro0 p none vst0 vst0 aro0_ok ⟨rfl, rfl, rfl⟩
 unfold goesV
 simp only
 rw [h.1]
 split
 ·exact sim_begin _ h
 ·exact h
theorem long_sim (n : Nod) (p : Plc) : longV (goesV n p) = longV (goesV n none) := by
 have h := goes_sim n p
 unfold longV
 rw [h.1, h.2.1]
theorem goes_spot (n : Nod) (p : List Int) (k : Int) : (goesV n (some (p, k))).spot ≠ 0 := by
 have h := (walk_told n aro0 aro0_ok).2 p k _ _ tr0 rfl
 unfold goesV
 simp only
 split
 ·unfold beginV
  simp only
  have := h.2.2
  split <;> omega
 ·exact h.2.2
theorem view_may (n : Nod) (p : List Int × Int) :
  ((viewN n).2 = 0 ∨ ((viewN n).2 = 10 ∧ (viewN n).1 = [])) ∧ (posN n p).2 = (viewN n).2 ∧
  ((viewN n).2 = 0 → mayD (viewN n).1 = true ∧ sizeD (viewN n).1 = cellsN n ∧ isD (viewN n).1 (posN n p).1 = true) := by
 obtain ⟨q, k⟩ := p
 unfold viewN posN
 simp only
 have hll := long_sim n (some (q, k))
 by_cases hl : longV (goesV n none) = true
 ·rw [if_pos hl, if_pos (hll.trans hl)]
  exact ⟨.inr ⟨rfl, rfl⟩, rfl, (fun h => by cases h)⟩
 ·rw [if_neg hl, if_neg (fun e => hl (hll.symm.trans e))]
  obtain ⟨h, hne⟩ := goes_ok n none
  obtain ⟨hp, _⟩ := goes_ok n (some (q, k))
  have hs := goes_spot n q k
  have hsim := goes_sim n (some (q, k))
  refine ⟨.inl rfl, by split <;> rfl, fun _ => ⟨?_, ?_, ?_⟩⟩
  ·unfold longV at hl
   simp only [Bool.or_eq_true, decide_eq_true_eq, not_or] at hl
   have hc := h.cells
   unfold sizeL at hc
   unfold mayD sizeD
   have hlen : 1 ≤ (goesV n none).lines.length := by
    cases hx : (goesV n none).lines with
    | nil => exact absurd hx hne
    | cons a l => simp
   simp only [Bool.and_eq_true, decide_eq_true_eq, List.all_eq_true]
   exact ⟨⟨⟨hlen, by omega⟩, by omega⟩, h.may⟩
  ·have hc := h.cells
   unfold sizeL at hc
   unfold sizeD
   rw [← hc]
   have hcn := cells_node n aro0 vst0 aro0_ok
   have : (goesV n none).cells = (nodeV n aro0 none vst0).cells := by unfold goesV; simp only; split <;> rfl
   rw [this, hcn]
   simp [vst0]
  ·rw [← hsim.1]
   by_cases h1 : (goesV n (some (q, k))).spot = 1
   ·rw [if_pos h1]
    exact end_is (hsim.1 ▸ hne)
   ·rw [if_neg h1]
    rcases hp.spot with g | g | g
    ·exact absurd g hs
    ·exact absurd g h1
    ·exact g.2
end Go.Proofs.Qw
namespace Go.Proofs.Qw
open Go.RowKit
def puts (a : Aro) (l : List Int) (s : VSt) : VSt := l.foldl (fun s c => putV a c s) s
theorem puts_nil (a : Aro) (s : VSt) : puts a [] s = s := rfl
theorem puts_cons (a : Aro) (c : Int) (l : List Int) (s : VSt) : puts a (c :: l) s = puts a l (putV a c s) := rfl
theorem puts_app (a : Aro) (l m : List Int) (s : VSt) : puts a (l ++ m) s = puts a m (puts a l s) := by unfold puts; rw [List.foldl_append]
theorem put_spot (a : Aro) (c : Int) {s : VSt} (h : s.spot ≠ 0) : (putV a c s).spot ≠ 0 := by
 unfold putV addV
 split
 ·exact h
 ·unfold beginV
  simp only
  split
  ·decide
  ·exact h
theorem puts_spot (a : Aro) : ∀ (l : List Int) {s : VSt}, s.spot ≠ 0 → (puts a l s).spot ≠ 0
 | [], _, h => h
 | c :: l, _, h => puts_spot a l (put_spot a c h)
theorem met_spot (s : VSt) : (metV s).spot ≠ 0 := by
 unfold metV
 split
 ·assumption
 ·split <;> simp
theorem met_met {s : VSt} (h : s.spot ≠ 0) : metV s = s := by unfold metV; rw [if_pos h]
theorem textV_puts (a : Aro) : ∀ (l : List Int) (k : Option Int) (s : VSt), (∀ j, k = some j → j < 0) → textV a l k s = puts a (flatR l) s
 | [], k, s, h => by
  rw [textV_nil]
  cases k with
  | none => rfl
  | some j =>
   have := h j rfl
   simp only
   rw [if_neg (by omega)]
   rfl
 | c :: l, k, s, h => by
  have hk : ¬ k = some 0 := fun e => by have := h 0 e; omega
  rw [textV_cons, if_neg hk, textV_puts a l]
  ·unfold flatR
   cases hf : flatC c with
   | none => simp [hf]
   | some x => simp only [List.filterMap_cons, hf]; rw [puts_cons]
  ·rintro j hj
   cases k with
   | none => cases hj
   | some i =>
    have := h i rfl
    simp at hj
    omega
theorem textV_at (a : Aro) : ∀ (l : List Int) (k : Nat) (s : VSt), textV a l (some (k : Int)) s = puts a (flatR (l.drop k)) (metV (puts a (flatR (l.take k)) s))
 | [], k, s => by
  rw [textV_nil]
  simp only
  rw [if_pos (Int.natCast_nonneg _)]
  simp [flatR, puts]
 | c :: l, 0, s => by
  rw [textV_cons, textV_puts a l]
  ·simp only [List.drop_zero, List.take_zero]
   unfold flatR
   cases hf : flatC c with
   | none => simp [hf, puts]
   | some x => simp [hf, puts]
  ·rintro j hj
   simp at hj
   omega
 | c :: l, k + 1, s => by
  rw [textV_cons]
  have h0 : ¬ (some ((k + 1 : Nat) : Int)) = some 0 := fun e => by cases e
  rw [if_neg h0]
  have h1 : (some ((k + 1 : Nat) : Int)).map (· - 1) = some (k : Int) := by simp
  rw [h1, textV_at a l k]
  simp only [List.drop_succ_cons, List.take_succ_cons]
  unfold flatR
  cases hf : flatC c with
  | none => simp [hf]
  | some x => simp only [List.filterMap_cons, hf]; rw [puts_cons]
def stT (a : Aro) (l : List Int) (m : Option Nat) (s : VSt) (i : Nat) : VSt :=
 match m with
 | none => puts a (l.take i) s
 | some m => if i ≤ m then puts a (l.take i) s else puts a ((l.drop m).take (i - m)) (metV (puts a (l.take m) s))
theorem stT_zero (a : Aro) (l : List Int) (m : Option Nat) (s : VSt) : stT a l m s 0 = s := by
 cases m with
 | none => rfl
 | some m => unfold stT; simp only; rw [if_pos (Nat.zero_le _)]; rfl
theorem take_get {l : List Int} {i : Nat} {c : Int} (h : l[i]? = some c) : l.take (i + 1) = l.take i ++ [c] := by
 rw [List.take_add_one, h]; rfl
theorem stT_step (a : Aro) {l : List Int} (m : Option Nat) (s : VSt) {i : Nat} {c : Int} (h : l[i]? = some c) :
  stT a l m s (i + 1) = putV a c (if m = some i then metV (stT a l m s i) else stT a l m s i) := by
 cases m with
 | none =>
  unfold stT
  simp only
  rw [take_get h, puts_app, if_neg (by simp)]
  rfl
 | some m =>
  unfold stT
  simp only
  by_cases h1 : i + 1 ≤ m
  ·have h2 : i ≤ m := by omega
   have h3 : ¬ (some m = some i) := fun e => by cases e; omega
   rw [if_pos h1, if_neg h3, if_pos h2, take_get h, puts_app]
   rfl
  ·rw [if_neg h1]
   by_cases h2 : m = i
   ·subst h2
    rw [if_pos rfl, if_pos (Nat.le_refl _), show m + 1 - m = 0 + 1 by omega]
    rw [take_get (l := l.drop m) (i := 0) (c := c) (by rw [List.getElem?_drop]; simpa using h), puts_app]
    rfl
   ·have h3 : ¬ (some m = some i) := fun e => h2 (by cases e; rfl)
    have h4 : ¬ i ≤ m := by omega
    rw [if_neg h3, if_neg h4, show i + 1 - m = (i - m) + 1 by omega]
    rw [take_get (l := l.drop m) (i := i - m) (c := c) (by rw [List.getElem?_drop, show m + (i - m) = i by omega]; exact h), puts_app]
    rfl
theorem stT_none (a : Aro) (l : List Int) (s : VSt) : stT a (flatR l) none s (flatR l).length = textV a l none s := by
 rw [textV_puts a l none s (fun _ h => by cases h)]
 unfold stT
 simp
theorem stT_some (a : Aro) (l : List Int) (k : Nat) (s : VSt) : metV (stT a (flatR l) (some (flatR (l.take k)).length) s (flatR l).length) = textV a l (some (k : Int)) s := by
 rw [textV_at]
 have e : flatR l = flatR (l.take k) ++ flatR (l.drop k) := by
  unfold flatR
  rw [← List.filterMap_append, List.take_append_drop]
 generalize flatR (l.take k) = x at *
 generalize flatR (l.drop k) = y at *
 rw [e]
 unfold stT
 simp only
 by_cases h : y = []
 ·subst h
  rw [if_pos (by simp)]
  simp [puts]
 ·have hl : 0 < y.length := List.length_pos_iff.2 h
  rw [if_neg (by rw [List.length_append]; omega)]
  rw [List.drop_left, List.take_left, List.length_append, show x.length + y.length - x.length = y.length by omega, List.take_length]
  exact met_met (puts_spot a _ (met_spot _))
def capV (s : VSt) : Nat := s.cells + s.lines.length
theorem cap_begin (a : Aro) (s : VSt) : capV (beginV a s) = capV s + 1 := by unfold capV beginV; simp; omega
theorem lastD_len (f : Lin → Lin) (d : List Lin) : (lastD f d).length = d.length := by
 unfold lastD
 cases h : d.getLast? with
 | none => rw [List.getLast?_eq_none_iff] at h; subst h; rfl
 | some x =>
  have : d ≠ [] := fun e => by subst e; cases h
  have := List.length_pos_iff.2 this
  simp
  omega
theorem cap_add (a : Aro) (c : Int) (s : VSt) : capV (addV a c s) = capV s + 1 := by unfold capV addV; simp only [lastD_len]; omega
theorem cap_put (a : Aro) (c : Int) (s : VSt) : capV (putV a c s) ≤ capV s + 2 := by
 unfold putV
 rw [cap_add]
 split
 ·omega
 ·rw [cap_begin]; omega
theorem cap_met (s : VSt) : capV (metV s) = capV s := by
 unfold metV
 split
 ·rfl
 ·split <;> rfl
theorem cap_puts (a : Aro) : ∀ (l : List Int) (s : VSt), capV (puts a l s) ≤ capV s + 2 * l.length
 | [], s => by rw [puts_nil]; simp
 | c :: l, s => by
  rw [puts_cons]
  have h1 := cap_puts a l (putV a c s)
  have h2 := cap_put a c s
  rw [List.length_cons]
  omega
theorem flatR_len (l : List Int) : (flatR l).length ≤ l.length := List.length_filterMap_le _ _
theorem cap_stT (a : Aro) (l : List Int) (m : Option Nat) (s : VSt) (i : Nat) : capV (stT a l m s i) ≤ capV s + 2 * l.length := by
 unfold stT
 cases m with
 | none =>
  have h := cap_puts a (l.take i) s
  have := List.length_take_le i l
  simp only
  have : (l.take i).length ≤ l.length := by rw [List.length_take]; omega
  omega
 | some m =>
  simp only
  split
  ·have h := cap_puts a (l.take i) s
   have : (l.take i).length ≤ l.length := by rw [List.length_take]; omega
   omega
  ·have h := cap_puts a ((l.drop m).take (i - m)) (metV (puts a (l.take m) s))
   have h2 := cap_puts a (l.take m) s
   rw [cap_met] at h
   have e1 : ((l.drop m).take (i - m)).length ≤ l.length - m := by rw [List.length_take, List.length_drop]; omega
   have e2 : (l.take m).length ≤ min m l.length := by rw [List.length_take]; omega
   omega
theorem cap_text (a : Aro) (l : List Int) (k : Option Int) (s : VSt) : capV (textV a l k s) ≤ capV s + 2 * l.length := by
 by_cases h : ∀ j, k = some j → j < 0
 ·rw [textV_puts a l k s h]
  have := cap_puts a (flatR l) s
  have := flatR_len l
  omega
 ·obtain ⟨j, rfl, hj⟩ : ∃ j, k = some j ∧ 0 ≤ j := by
   cases k with
   | none => exact absurd (fun _ e => by cases e) h
   | some j => exact ⟨j, rfl, by
     by_cases hj : 0 ≤ j
     ·exact hj
     ·exact absurd (fun i e => by cases e; omega) h⟩
  obtain ⟨n, rfl⟩ : ∃ n : Nat, j = (n : Int) := ⟨j.toNat, by omega⟩
  rw [textV_at]
  have h1 := cap_puts a (flatR (l.drop n)) (metV (puts a (flatR (l.take n)) s))
  have h2 := cap_puts a (flatR (l.take n)) s
  rw [cap_met] at h1
  have h3 := flatR_len (l.drop n)
  have h4 := flatR_len (l.take n)
  rw [List.length_drop] at h3
  rw [List.length_take] at h4
  omega
theorem runesGo_len (s : ByteArray) : ∀ (f pos : Nat), (runesGo s f pos).length ≤ f
 | 0, _ => by simp [runesGo]
 | f + 1, pos => by
  unfold runesGo
  split
  ·have := runesGo_len s f (pos + (Utf8.decode s pos).2)
   rw [List.length_cons]; omega
  ·simp
mutual
def capM : Nod → Nat | .mk _ _ x ks => 2 + 2 * x.length + capMs ks
def capMs : List Nod → Nat | [] => 0 | k :: ks => capM k + capMs ks
end
mutual
def AvN : Nod → Prop | .mk _ ats _ ks => (∀ a ∈ ats, a.value.length ≤ 100000) ∧ AvK ks
def AvK : List Nod → Prop | [] => True | k :: ks => AvN k ∧ AvK ks
end
theorem cap_parts (n : Nod) : capM n = 2 + 2 * n.text.length + capMs n.kids := by cases n; rw [capM]; rfl
theorem av_parts {n : Nod} (h : AvN n) : (∀ a ∈ n.attrs, a.value.length ≤ 100000) ∧ AvK n.kids := by cases n; rw [AvN] at h; exact h
theorem av_mem : ∀ {l : List Nod} {n : Nod}, AvK l → n ∈ l → AvN n
 | k :: ks, n, h, hn => by
  rw [AvK] at h
  rcases List.mem_cons.1 hn with rfl | hn
  ·exact h.1
  ·exact av_mem h.2 hn
theorem cap_mem : ∀ {l : List Nod} {n : Nod}, n ∈ l → capM n ≤ capMs l
 | k :: ks, n, hn => by
  rw [capMs]
  rcases List.mem_cons.1 hn with rfl | hn
  ·omega
  ·have := cap_mem hn; omega
theorem capMs_drop {l : List Nod} {k : Nat} {x : Nod} (h : l.drop k = x :: l.drop (k + 1)) : capMs (l.drop k) = capM x + capMs (l.drop (k + 1)) := by rw [h, capMs]
theorem cap_light (n : Nod) : capM n ≤ 40 * n.mass ∧ (n.mass ≤ 3000 → AvN n) := by
 refine Nod.rec (motive_1 := fun n => capM n ≤ 40 * n.mass ∧ (n.mass ≤ 3000 → AvN n)) (motive_2 := fun ks => capMs ks ≤ 40 * Nod.masses ks ∧ (Nod.masses ks ≤ 3000 → AvK ks)) ?_ ?_ ?_ n
 ·intro t ats x ks ih
  have hm : (Nod.mk t ats x ks).mass = 1 + x.length / 16 + massA ats + Nod.masses ks := by rw [Nod.mass]
  rw [hm, capM, AvN]
  refine ⟨by have := ih.1; omega, fun h => ⟨fun a ha => ?_, ih.2 (by omega)⟩⟩
  have : ∀ l : List Att, a ∈ l → a.value.length / 16 ≤ massA l := by
   intro l
   induction l with
   | nil => intro h; cases h
   | cons b l ihl =>
    intro hb
    have e : massA (b :: l) = 1 + b.name.length / 16 + b.value.length / 16 + massA l := by simp [massA]
    rw [e]
    rcases List.mem_cons.1 hb with rfl | hb
    ·omega
    ·have := ihl hb; omega
  have := this ats ha
  omega
 ·refine ⟨by rw [capMs]; omega, fun _ => by rw [AvK]; trivial⟩
 ·intro k ks hk hks
  have hm : Nod.masses (k :: ks) = k.mass + Nod.masses ks := by rw [Nod.masses]
  rw [hm, capMs, AvK]
  exact ⟨by have := hk.1; have := hks.1; omega, fun h => ⟨hk.2 (by omega), hks.2 (by omega)⟩⟩
theorem cap_all (n : Nod) : ∀ a p s, capV (nodeV n a p s) ≤ capV s + capM n := by
 refine Nod.rec (motive_1 := fun n => ∀ a p s, capV (nodeV n a p s) ≤ capV s + capM n) (motive_2 := fun ks => ∀ i a p s, capV (kidsV ks i a p s) ≤ capV s + capMs ks) ?_ ?_ ?_ n
 ·intro t ats x ks ih a p s
  rw [capM]
  by_cases h1 : tagC t = 1
  ·rw [nodeV]
   simp only [if_pos h1]
   have h2 := cap_text a (runesB ⟨x.toArray⟩) ((normP t ks.length p).map (·.2)) s
   have h3 : (runesB ⟨x.toArray⟩).length ≤ x.length := by
    have := runesGo_len ⟨x.toArray⟩ x.length 0
    show (runesGo ⟨x.toArray⟩ (⟨x.toArray⟩ : ByteArray).size 0).length ≤ x.length
    have e : (⟨x.toArray⟩ : ByteArray).size = x.length := by simp [ByteArray.size]
    rw [e]
    simpa using this
   omega
  by_cases h5 : tagC t = 5
  ·rw [nodeV]
   simp only [if_neg h1, if_pos h5]
   have h2 := cap_put a 10 (if (normP t ks.length p).isSome = true then metV s else s)
   have h3 : capV (if (normP t ks.length p).isSome = true then metV s else s) = capV s := by split; exact cap_met s; rfl
   omega
  by_cases h3 : tagC t = 3
  ·rw [nodeV]
   simp only [if_neg h1, if_neg h5, if_pos h3]
   have h := ih 0 { a with kind := headT t } (normP t ks.length p) { s with opn := false }
   have e : capV ({ s with opn := false } : VSt) = capV s := rfl
   split
   ·refine Nat.le_trans (Nat.le_of_eq (cap_begin { a with kind := headT t } (kidsV ks 0 { a with kind := headT t } (normP t ks.length p) { s with opn := false }))) ?_
    omega
   ·refine Nat.le_trans (Nat.le_of_eq (rfl : _ = capV (kidsV ks 0 { a with kind := headT t } (normP t ks.length p) { s with opn := false }))) ?_
    omega
  by_cases h2 : tagC t = 2
  ·rw [nodeV]
   simp only [if_neg h1, if_neg h5, if_neg h3, if_pos h2]
   have h := ih 0 (boxA t a) (normP t ks.length p) { s with opn := false }
   have e : capV ({ s with opn := false } : VSt) = capV s := rfl
   refine Nat.le_trans (Nat.le_of_eq (rfl : _ = capV (kidsV ks 0 (boxA t a) (normP t ks.length p) { s with opn := false }))) ?_
   omega
  ·rw [nodeV]
   simp only [if_neg h1, if_neg h5, if_neg h3, if_neg h2]
   have h := ih 0 { a with bits := bitsN (.mk t ats x ks) a.bits, href := linkN (.mk t ats x ks) a.href } (normP t ks.length p) s
   omega
 ·intro i a p s
  rw [kidsV_nil]
  split
  ·rw [cap_met]; omega
  ·omega
 ·intro k ks hk hks i a p s
  rw [kidsV_cons, capMs]
  refine Nat.le_trans (hks _ _ _ _) ?_
  split
  ·have := hk a none s; omega
  ·have h3 : ∀ c : Prop, [Decidable c] → capV (if c then metV s else s) = capV s := fun c _ => by split; exact cap_met s; rfl
   refine Nat.le_trans (Nat.add_le_add_right (hk _ _ _) _) ?_
   rw [h3]
   omega
  ·split
   ·refine Nat.le_trans (Nat.add_le_add_right (hk _ _ _) _) ?_
    omega
   ·have := hk a none s; omega
structure OpW (s : VSt) : Prop where
 some : s.opn = true → s.lines ≠ []
 cells : s.cells = sizeL s.lines
theorem lastD_snoc (f : Lin → Lin) (m : List Lin) (l : Lin) : lastD f (m ++ [l]) = m ++ [f l] := by unfold lastD; simp
theorem snoc_of {d : List Lin} (h : d ≠ []) : ∃ m l, d = m ++ [l] := ⟨d.dropLast, d.getLast h, (List.dropLast_concat_getLast h).symm⟩
theorem opw_begin (a : Aro) {s : VSt} (h : OpW s) : OpW (beginV a s) := ⟨fun _ => by simp [beginV], by
 show s.cells = sizeL (s.lines ++ [frameA a])
 rw [h.cells]
 simp [sizeL, frameA]⟩
theorem opw_add (a : Aro) (c : Int) {s : VSt} (h : OpW s) (hl : s.lines ≠ []) : OpW (addV a c s) := by
 have hs := lastD_size ⟨c, a.bits, a.href⟩ hl
 exact ⟨fun _ => hs.2, by
  have h1 := h.cells
  have h2 := hs.1
  show s.cells + 1 = sizeL (addE ⟨c, a.bits, a.href⟩ s.lines)
  omega⟩
theorem opw_put (a : Aro) (c : Int) {s : VSt} (h : OpW s) : OpW (putV a c s) := by
 unfold putV
 by_cases ho : s.opn = true
 ·rw [if_pos ho]; exact opw_add a c h (h.some ho)
 ·rw [if_neg ho]; exact opw_add a c (opw_begin a h) (by simp [beginV])
theorem opw_met {s : VSt} (h : OpW s) : OpW (metV s) := by
 unfold metV
 split
 ·exact h
 ·split
  ·exact ⟨h.some, h.cells⟩
  ·exact ⟨h.some, h.cells⟩
theorem opw_close {s : VSt} (h : OpW s) : OpW { s with opn := false } := ⟨(fun e => by cases e), h.cells⟩
theorem opw_puts (a : Aro) : ∀ (l : List Int) {s : VSt}, OpW s → OpW (puts a l s)
 | [], _, h => h
 | c :: l, _, h => opw_puts a l (opw_put a c h)
theorem opw_stT (a : Aro) (l : List Int) (m : Option Nat) {s : VSt} (i : Nat) (h : OpW s) : OpW (stT a l m s i) := by
 unfold stT
 cases m with
 | none => exact opw_puts a _ h
 | some m =>
  simp only
  split
  ·exact opw_puts a _ h
  ·exact opw_puts a _ (opw_met (opw_puts a _ h))
theorem opw_text (a : Aro) : ∀ (l : List Int) (k : Option Int) {s : VSt}, OpW s → OpW (textV a l k s)
 | [], k, s, h => by
  rw [textV_nil]
  cases k with
  | none => exact h
  | some k => simp only; split; exact opw_met h; exact h
 | c :: l, k, s, h => by
  rw [textV_cons]
  have h1 : OpW (if k = some 0 then metV s else s) := by split; exact opw_met h; exact h
  refine opw_text a l _ ?_
  cases flatC c with
  | none => exact h1
  | some x => exact opw_put a _ h1
def ArW (a : Aro) : Prop := 0 ≤ a.quote ∧ a.quote ≤ 6 ∧ a.lists.length ≤ 6
theorem arw_box (t : Int) {a : Aro} (h : ArW a) : ArW (boxA t a) := by
 unfold boxA
 obtain ⟨h1, h2, h3⟩ := h
 split
 ·exact ⟨by simp only; omega, by simp only; omega, h3⟩
 ·split
  ·rename_i h4
   exact ⟨h1, h2, by simp only [List.length_append, List.length_singleton]; omega⟩
  ·exact ⟨h1, h2, h3⟩
theorem opw_node (n : Nod) : ∀ a p s, OpW s → OpW (nodeV n a p s) := by
 refine Nod.rec (motive_1 := fun n => ∀ a p s, OpW s → OpW (nodeV n a p s)) (motive_2 := fun ks => ∀ i a p s, OpW s → OpW (kidsV ks i a p s)) ?_ ?_ ?_ n
 ·intro t ats x ks ih a p s h
  by_cases h1 : tagC t = 1
  ·rw [nodeV]; simp only [if_pos h1]; exact opw_text a _ _ h
  by_cases h5 : tagC t = 5
  ·rw [nodeV]; simp only [if_neg h1, if_pos h5]
   refine opw_put a 10 ?_
   split
   ·exact opw_met h
   ·exact h
  by_cases h3 : tagC t = 3
  ·rw [nodeV]; simp only [if_neg h1, if_neg h5, if_pos h3]
   have h4 := ih 0 { a with kind := headT t } (normP t ks.length p) _ (opw_close h)
   split
   ·exact opw_close (opw_begin _ h4)
   ·exact opw_close h4
  by_cases h2 : tagC t = 2
  ·rw [nodeV]; simp only [if_neg h1, if_neg h5, if_neg h3, if_pos h2]
   exact opw_close (ih 0 (boxA t a) (normP t ks.length p) _ (opw_close h))
  ·rw [nodeV]; simp only [if_neg h1, if_neg h5, if_neg h3, if_neg h2]; exact ih _ _ _ _ h
 ·intro i a p s h
  rw [kidsV_nil]
  split
  ·exact opw_met h
  ·exact h
 ·intro k ks hk hks i a p s h
  rw [kidsV_cons]
  refine hks _ _ _ _ ?_
  split
  ·exact hk _ _ _ h
  ·exact hk _ _ _ (by split; exact opw_met h; exact h)
  ·split
   ·exact hk _ _ _ h
   ·exact hk _ _ _ h
end Go.Proofs.Qw
namespace Go.Proofs.YtjpgffihafknlaaGreatDoor
open Go.RowKit
open Go.Proofs.Qw
set_option maxHeartbeats 1000000 in
theorem docMay1_any (l : Lin) (b o : Nat) (la ca : Option Addr) (lc cc : Nat) (w w0 : World) (S : Nat → Prop) (hA : LinAt w0 S b o l la lc ca cc)
  (he : EnvT w) (h0 : Below w0.heap.size w0 w) (hs : ∀ c ∈ l.cells, c.href.length ≤ 1000000) :
  Calls Tryz.prog 50 #[.agg #[.int .i64 l.quote, .slice la l.lists.length lc, .int .i64 l.kind, .slice ca l.cells.length cc]] w fun e w' => e = .returned (.bool (!mayL l)) ∧ Below w.heap.size w w' := by
 obtain ⟨W1, hW1⟩ : ∃ W1, w.alloc (.cells #[.int .i64 l.quote, .slice la l.lists.length lc, .int .i64 l.kind, .slice ca l.cells.length cc] 37) = W1 := ⟨_, rfl⟩
 have hB : Below w.heap.size w W1 := hW1 ▸ (Below.refl _ _).alloc (Nat.le_refl _) _
 have k0 : W1.cell? ⟨w.heap.size, 0, none⟩ = some (.int .i64 l.quote) := hW1 ▸ cell_new _ _ _ 0
 have k1 : W1.cell? ⟨w.heap.size, 1, none⟩ = some (.slice la l.lists.length lc) := hW1 ▸ cell_new _ _ _ 1
 have k2 : W1.cell? ⟨w.heap.size, 2, none⟩ = some (.int .i64 l.kind) := hW1 ▸ cell_new _ _ _ 2
 have k3 : W1.cell? ⟨w.heap.size, 3, none⟩ = some (.slice ca l.cells.length cc) := hW1 ▸ cell_new _ _ _ 3
 have HC := Lib.hid (lineMay_any l la ca lc cc W1 w0 S hA.listsR hA.cellsR (he.below hB) (below_from h0 hB) hs)
 generalize mayL l = r at *
 clear hA
 go_enter Tryz.func50, Tryz.ntmps50
 go_wp2_with (go_at_call 51; refine HC.out.mono ?_; rintro e w1 ⟨rfl, hb1⟩)
 go_ret
 exact ⟨rfl, hB.trans (hb1.mono hB.size)⟩
set_option maxHeartbeats 1000000 in
theorem docMay_any (v : Value) (d : Doc) (w w0 : World) (S : Nat → Prop) (h : LinsR w0 S v d) (he : EnvT w) (h0 : Below w0.heap.size w0 w) (hs : Small d) :
  Calls Tryz.prog 23 #[v] w fun e w' => e = .returned (.bool (mayD d)) ∧ Below w.heap.size w w' := by
 have HC1 := Lib.hid (size_any v d w w0 S h h0 hs.1)
 have HC2 : Hid (∀ W, EnvT W → Below w0.heap.size w0 W → Calls Tryz.prog 49 #[v, .func (.func 50) #[] #[]] W fun e w' => e = .returned (.bool (d.any fun l => !mayL l)) ∧ Below W.heap.size W w') := Lib.hid fun W h1 h2 =>
  containsLine_any v d (fun l => !mayL l) 50 #[] (enters_of Tryz.func50 (by kernel_rfl) rfl) W w0 S h h1 h2 (fun i l W' b o la lc ca cc hi hA h1 h2 _ => docMay1_any l b o la ca lc cc W' w0 S hA h1 h2 (hs.2.2 l (List.mem_of_getElem? hi)))
 have HE : Hid (mayD d = (decide (1 ≤ (d.length : Int)) && (decide ((d.length : Int) ≤ 200) && (decide ((sizeD d : Int) ≤ 4000) && !(d.any fun l => !mayL l))))) := Lib.hid (by
  unfold mayD
  rw [List.any_eq_not_all_not, Bool.not_not, Bool.and_assoc, Bool.and_assoc]
  rw [show decide (1 ≤ d.length) = decide (1 ≤ (d.length : Int)) from decide_eq_decide.2 (by omega), show decide (d.length ≤ 200) = decide ((d.length : Int) ≤ 200) from decide_eq_decide.2 (by omega), show decide (sizeD d ≤ 4000) = decide ((sizeD d : Int) ≤ 4000) from decide_eq_decide.2 (by omega)]
  simp)
 obtain ⟨a, c, rfl⟩ := h.slice
 generalize (d.any fun l => !mayL l) = x at *
 generalize mayD d = r at *
 generalize sizeD d = z at *
 clear h
 go_enter Tryz.func23, Tryz.ntmps23
 go_wp2_with (first | (go_at_call 24; refine HC1.out.mono ?_; rintro e w1 ⟨rfl, hb1⟩; have he1 := he.below hb1; have hw1 := below_from h0 hb1) | (go_at_call 49; refine (HC2.out _ (by assumption) (by assumption)).mono ?_; rintro e w2 ⟨rfl, hb2⟩; have hb4 := Below.trans hb1 (hb2.mono (Below.size hb1))))
 all_goals
  go_ret
  refine ⟨?_, by first | assumption | exact Below.refl _ _⟩
  rw [HE.out]
  refine congrArg Ending.returned (congrArg Value.bool ?_)
  clear HE HC1 HC2
  simp (config := { failIfUnchanged := false }) [*]
 all_goals try omega
end Go.Proofs.YtjpgffihafknlaaGreatDoor
namespace Go.Proofs.YtjpgffihafknlaaGreatDoor
open Go.RowKit
open Go.Proofs.Qw
def spanD (d : Doc) (a b : Ps) : Bool := mayD d && isD d a && isD d b && decide (cmpP a b ≤ 0)
end Go.Proofs.YtjpgffihafknlaaGreatDoor
namespace Go.Proofs.Qw
open Go.RowKit Go.Proofs.YtjpgffihafknlaaGreatDoor
def rowB (d : Doc) (i p j q k : Nat) : Nat × Nat × Nat := (k, if k = i then p else 0, if k = j then q else (d.getD k default).cells.length)
def rowsTo (d : Doc) (i p j q k : Nat) : List (Nat × Nat × Nat) := (List.range (k - i)).map fun n => rowB d i p j q (i + n)
end Go.Proofs.Qw
namespace Go.Proofs.Qw
open Go.RowKit Go.Proofs.YtjpgffihafknlaaGreatDoor
def cellsB (d : Doc) (x : Nat × Nat × Nat) : List Cel := ((d.getD x.1 default).cells.drop x.2.1).take (x.2.2 - x.2.1)
def cellsL (d : Doc) (l : List (Nat × Nat × Nat)) : List Cel := l.flatMap (cellsB d)
def cellsD (d : Doc) (a b : Ps) : List Cel := if spanD d a b = true then cellsL d (rowsTo d a.line.toNat a.col.toNat b.line.toNat b.col.toNat (b.line.toNat + 1)) else []
end Go.Proofs.Qw
namespace Go.Proofs.YtjpgffihafknlaaGreatDoor
open Go.RowKit
open Go.Proofs.Qw
attribute [local go_sem] Oper.semAt_some
attribute [local go_sem] Oper.semAt_some
structure Kb (n₀ base top : Nat) (W W' : World) : Prop where
 below : Below n₀ W W'
 cells : ∀ k o, base ≤ k → k < top → W.heap[k]? = some o → o.isCells = true → W'.heap[k]? = some o
theorem Kb.t {n₀ base top : Nat} {A B C : World} (h : Kb n₀ base top A B) (k : Kb n₀ base top B C) : Kb n₀ base top A C := ⟨h.below.trans k.below, fun i o hi ht ho hc => k.cells i o hi ht (h.cells i o hi ht ho hc) hc⟩
theorem Kb.of_kp {n₀ base top : Nat} {A B : World} (h : Kp n₀ base A B) : Kb n₀ base top A B := ⟨h.below, fun i o hi _ ho hc => h.cells i o hi ho hc⟩
theorem Kb.b {n₀ base top : Nat} {w : World} (hn : n₀ ≤ w.heap.size) (W : World) (l : Nat) (o o' : Obj) (hl : w.heap.size ≤ l) (h : W.heap[l]? = some o) (hc : o.isCells = false) (hw : o.isWalk = false) : Kb n₀ base top W (W.putObj l o') := .of_kp (Kp.b hn W l o o' hl h hc hw)
theorem Kb.of_below {n₀ base top : Nat} {W W' : World} (hn : n₀ ≤ W.heap.size) (hb : Below W.heap.size W W') : Kb n₀ base top W W' := .of_kp (.of_below hn hb)
theorem Kb.setCell {n₀ base top : Nat} (W : World) {B o : Nat} (h1 : n₀ ≤ B) (h2 : B < base ∨ top ≤ B) (v : Value) : Kb n₀ base top W (W.setCell ⟨B, o, none⟩ v) :=
 ⟨(Below.refl _ _).setCell h1 _, fun k u hk ht h _ => by rw [Below.heap_setCell _ _ _ _ (by simp; omega)]; exact h⟩
end Go.Proofs.YtjpgffihafknlaaGreatDoor
namespace Go.Proofs.Qw
open Go.RowKit
theorem kids_none : ∀ (ks : List Nod) (i : Nat) (a : Aro) (s : VSt), kidsV ks i a none s = ks.foldl (fun s k => nodeV k a none s) s
 | [], i, a, s => by unfold kidsV; rfl
 | k :: ks, i, a, s => by rw [kidsV, kids_none ks]; rfl
def CelOk (c : Cel) : Prop := (mayR c.r = true ∨ c.r = 10) ∧ 0 ≤ c.bits ∧ c.bits ≤ 15 ∧ (c.href = [] ∨ targetF c.href = true)
end Go.Proofs.Qw
namespace Go.Proofs.YtjpgffihafknlaaGreatDoor
open Go.RowKit
open Go.Proofs.Qw
def CellsSaid (d : List Cel) (err : Int) (w : World) (e : Ending) (w' : World) : Prop := ∃ v', e = .returned (.tuple #[v', .int .i64 err]) ∧ CelsR true w' (fun b => w.heap.size ≤ b) v' d ∧ Below w.heap.size w w'
theorem CellsSaid.from {d : List Cel} {err : Int} {w W : World} {e : Ending} {w' : World} (h : CellsSaid d err W e w') (hb : Below w.heap.size w W) : CellsSaid d err w e w' := by
 obtain ⟨v', h1, h2, h3⟩ := h
 exact ⟨v', h1, SliceR.stable (rdOf_stable _) h2 (Keeps.refl _ _) (fun b h _ => Nat.le_trans hb.size h), below_from hb h3⟩
end Go.Proofs.YtjpgffihafknlaaGreatDoor
namespace Go.Proofs.Qw
open Go.RowKit Go.Proofs.YtjpgffihafknlaaGreatDoor
def setRow (C : List Cel → Nat → Nat → List Cel) (D : Doc) (x : Nat × Nat × Nat) : Doc := D.set x.1 { (D.getD x.1 default) with cells := C (D.getD x.1 default).cells x.2.1 x.2.2 }
def Alike (D E : Doc) : Prop := D.length = E.length ∧ ∀ (k : Nat) (l : Lin), D[k]? = some l → ∃ m, E[k]? = some m ∧ m.cells.length = l.cells.length
theorem Alike.refl (D : Doc) : Alike D D := ⟨rfl, fun _ l h => ⟨l, h, rfl⟩⟩
theorem Alike.trans {D E F : Doc} (h : Alike D E) (k : Alike E F) : Alike D F := ⟨h.1.trans k.1, fun i l hl => by
 obtain ⟨m, h1, h2⟩ := h.2 i l hl
 obtain ⟨n, h3, h4⟩ := k.2 i m h1
 exact ⟨n, h3, h4.trans h2⟩⟩
end Go.Proofs.Qw
namespace Go.Proofs.Qw
open Go.RowKit
section
variable {P : Program} {ops : Array Oper} {Q : Exit → Act → World → Prop} {md : Region.Mode} {A B : World → Prop} {t : Nat}
def wpAnyT (P : Program) (md : Region.Mode) (ops : Array Oper) (Q : Exit → Act → World → Prop) (A B : World → Prop) (t : Nat) : Nat → Array Bool → Act → World → Prop
 | 0, L, a, w => Region.ready md ops L = [] ∧ Q .normal a w
 | f + 1, L, a, w => (Region.ready md ops L = [] → Q .normal a w) ∧
  ∀ i ∈ Region.ready md ops L, wpOp P ops Q i (fun a' w' => (A w' ∧ ((L.setIfInBounds i true).getD t true = false → B w')) ∧ wpAnyT P md ops Q A B t f (L.setIfInBounds i true) a' w') a w
theorem any_of_T : ∀ (f : Nat) (L : Array Bool) (a : Act) (w : World), wpAnyT P md ops Q A B t f L a w → wpAny P md ops Q f L a w
 | 0, _, _, _, h => h
 | f + 1, _, _, _, h => ⟨h.1, fun i hi => wpOp_mono (fun a' w' h' => any_of_T f _ a' w' h'.2) (h.2 i hi)⟩
def waitsFor (md : Region.Mode) (ops : Array Oper) (t i : Nat) : Bool := match ops[t]? with | some o => o.after.any (fun e => Region.binds md e && e.on == i) | none => false
theorem firstT {i : Nat} {oi : Oper} {v : Value} (hi : ops[i]? = some oi) (hsel : ∀ (j : Nat) (o : Oper) cs b, ops[j]? = some o → o.op ≠ .select cs b)
  (hQ : ∀ c a w, Q (.panic c) (a.put oi.dst v) w → Q (.panic c) a w) (hwt : waitsFor md ops t i = true) (hti : t ≠ i) :
  ∀ (f : Nat) (L : Array Bool) (a : Act) (w : World),
   (∀ j oj, ops[j]? = some oj → j ≠ i → L.getD j true = false → (∀ e ∈ oj.after, Region.binds md e = true → e.on ≠ i) → oi.apart ops oj = true) →
   i ∈ Region.ready md ops L → L.getD t true = false → YieldsIf P ops (fun w => A w ∧ B w) oi v a → A w → B w →
   wpAnyT P md ops Q A B t f (L.setIfInBounds i true) (a.put oi.dst v) w → wpAnyT P md ops Q A B t (f + 1) L a w := by
 intro f
 induction f with
 | zero =>
  intro L a w _ hr ht hy hA hB H
  refine ⟨fun h => (by rw [h] at hr; cases hr), fun j hj => ?_⟩
  by_cases hji : j = i
  ·subst hji
   exact hy.wpOp hi ⟨hA, hB⟩ ⟨⟨hA, fun _ => hB⟩, H⟩
  ·have := ready_mono hj hji
   rw [H.1] at this
   cases this
 | succ f ih =>
  intro L a w hfree hr ht hy hA hB H
  refine ⟨fun h => (by rw [h] at hr; cases hr), fun j hj => ?_⟩
  by_cases hji : j = i
  ·subst hji
   exact hy.wpOp hi ⟨hA, hB⟩ ⟨⟨hA, fun _ => hB⟩, H⟩
  ·have h1 := H.2 j (ready_mono hj hji)
   obtain ⟨hjun, oj, hoj, hall⟩ := mem_ready.1 hj
   have hiun := (mem_ready.1 hr).1
   have hlisted : ∀ e ∈ oj.after, Region.binds md e = true → e.on ≠ i := fun e he hb heq => by
    have g1 := hall e he hb
    rw [heq] at g1
    rcases Nat.lt_or_ge i L.size with h' | h'
    ·simp [h'] at hiun g1
     rw [hiun] at g1
     cases g1
    ·simp [Array.getElem?_eq_none h'] at g1
   have hjt : j ≠ t := by
    rintro rfl
    unfold waitsFor at hwt
    rw [hoj] at hwt
    obtain ⟨k, hk, he⟩ := Array.any_eq_true.1 hwt
    simp only [Bool.and_eq_true, beq_iff_eq] at he
    exact hlisted _ (Array.getElem_mem _) he.1 he.2
   have h2 := wpOp_putIf hoj (hfree j oj hoj hji hjun hlisted) (fun cs b => hsel i oi cs b hi) (fun cs b => hsel j oj cs b hoj) hQ hy h1
   have hfree' : ∀ k ok, ops[k]? = some ok → k ≠ i → (L.setIfInBounds j true).getD k true = false →
     (∀ e ∈ ok.after, Region.binds md e = true → e.on ≠ i) → oi.apart ops ok = true := fun k ok hk hki hun hno => by
    refine hfree k ok hk hki ?_ hno
    by_cases hjk : j = k
    ·subst hjk; exact hjun
    ·rw [getD_set_ne true hjk] at hun; exact hun
   have htj : (L.setIfInBounds j true).getD t true = false := by rw [getD_set_ne true hjt]; exact ht
   have htij : ((L.setIfInBounds i true).setIfInBounds j true).getD t true = false := by rw [getD_set_ne true hjt, getD_set_ne true (Ne.symm hti)]; exact ht
   refine wpOp_mono (fun a' w' h3 => ?_) h2
   have hA' := h3.2.1.1
   have hB' := h3.2.1.2 htij
   refine ⟨⟨hA', fun _ => hB'⟩, ih (L.setIfInBounds j true) a' w' hfree' (ready_mono hr (Ne.symm hji)) htj h3.1 hA' hB' ?_⟩
   rw [Array.setIfInBounds_comm _ _ hji]
   exact h3.2.2
theorem firstA {i : Nat} {oi : Oper} {v : Value} (hi : ops[i]? = some oi) (hsel : ∀ (j : Nat) (o : Oper) cs b, ops[j]? = some o → o.op ≠ .select cs b)
  (hQ : ∀ c a w, Q (.panic c) (a.put oi.dst v) w → Q (.panic c) a w) (hti : t ≠ i) :
  ∀ (f : Nat) (L : Array Bool) (a : Act) (w : World),
   (∀ j oj, ops[j]? = some oj → j ≠ i → L.getD j true = false → (∀ e ∈ oj.after, Region.binds md e = true → e.on ≠ i) → oi.apart ops oj = true) →
   i ∈ Region.ready md ops L → YieldsIf P ops A oi v a → A w → (L.getD t true = true ∨ B w) →
   wpAnyT P md ops Q A B t f (L.setIfInBounds i true) (a.put oi.dst v) w → wpAnyT P md ops Q A B t (f + 1) L a w := by
 intro f
 have hset : ∀ (L : Array Bool) {x : World}, (L.getD t true = true ∨ B x) → ((L.setIfInBounds i true).getD t true = false → B x) := fun L x h e => by
  rw [getD_set_ne true (Ne.symm hti)] at e
  exact h.resolve_left (fun e' => by rw [e] at e'; cases e')
 induction f with
 | zero =>
  intro L a w _ hr hy hA hB H
  refine ⟨fun h => (by rw [h] at hr; cases hr), fun j hj => ?_⟩
  by_cases hji : j = i
  ·subst hji
   exact hy.wpOp hi hA ⟨⟨hA, hset L hB⟩, H⟩
  ·have := ready_mono hj hji
   rw [H.1] at this
   cases this
 | succ f ih =>
  intro L a w hfree hr hy hA hB H
  refine ⟨fun h => (by rw [h] at hr; cases hr), fun j hj => ?_⟩
  by_cases hji : j = i
  ·subst hji
   exact hy.wpOp hi hA ⟨⟨hA, hset L hB⟩, H⟩
  ·have h1 := H.2 j (ready_mono hj hji)
   obtain ⟨hjun, oj, hoj, hall⟩ := mem_ready.1 hj
   have hiun := (mem_ready.1 hr).1
   have hlisted : ∀ e ∈ oj.after, Region.binds md e = true → e.on ≠ i := fun e he hb heq => by
    have g1 := hall e he hb
    rw [heq] at g1
    rcases Nat.lt_or_ge i L.size with h' | h'
    ·simp [h'] at hiun g1
     rw [hiun] at g1
     cases g1
    ·simp [Array.getElem?_eq_none h'] at g1
   have h2 := wpOp_putIf hoj (hfree j oj hoj hji hjun hlisted) (fun cs b => hsel i oi cs b hi) (fun cs b => hsel j oj cs b hoj) hQ hy h1
   have hfree' : ∀ k ok, ops[k]? = some ok → k ≠ i → (L.setIfInBounds j true).getD k true = false →
     (∀ e ∈ ok.after, Region.binds md e = true → e.on ≠ i) → oi.apart ops ok = true := fun k ok hk hki hun hno => by
    refine hfree k ok hk hki ?_ hno
    by_cases hjk : j = k
    ·subst hjk; exact hjun
    ·rw [getD_set_ne true hjk] at hun; exact hun
   refine wpOp_mono (fun a' w' h3 => ?_) h2
   have hA' := h3.2.1.1
   have hB' : ((L.setIfInBounds j true).getD t true = true ∨ B w') := by
    cases e : (L.setIfInBounds j true).getD t true with
    | true => exact .inl rfl
    | false => exact .inr (h3.2.1.2 (by rw [Array.setIfInBounds_comm _ _ (Ne.symm hji), getD_set_ne true (Ne.symm hti)]; exact e))
   refine ⟨⟨hA', fun e => hB'.resolve_left (fun e' => by rw [e] at e'; cases e')⟩, ih (L.setIfInBounds j true) a' w' hfree' (ready_mono hr (Ne.symm hji)) h3.1 hA' hB' ?_⟩
   rw [Array.setIfInBounds_comm _ _ hji]
   exact h3.2.2
theorem anyT_takeA {i : Nat} {oi : Oper} {v : Value} {f : Nat} {L : Array Bool} {a : Act} {w : World} (hi : ops[i]? = some oi)
  (hs : Region.noSelect ops = true) (hf : Region.free md ops L i = true) (hr : (Region.ready md ops L).contains i = true) (hti : (!(t == i)) = true)
  (hQ : ∀ c a w, Q (.panic c) (a.put oi.dst v) w → Q (.panic c) a w) (hy : YieldsIf P ops A oi v a) (hA : A w) (hB : L.getD t true = true ∨ B w)
  (h : wpAnyT P md ops Q A B t f (L.setIfInBounds i true) (a.put oi.dst v) w) : wpAnyT P md ops Q A B t (f + 1) L a w := by
 simp only [Bool.not_eq_true', beq_eq_false_iff_ne, ne_eq] at hti
 exact firstA hi (Region.noSelect_spec hs) hQ hti f L a w (Region.free_spec hi hf) (by simpa using hr) hy hA hB h
theorem anyT_take {i : Nat} {oi : Oper} {v : Value} {f : Nat} {L : Array Bool} {a : Act} {w : World} (hi : ops[i]? = some oi)
  (hs : Region.noSelect ops = true) (hf : Region.free md ops L i = true) (hr : (Region.ready md ops L).contains i = true) (hwt : (waitsFor md ops t i && !(t == i) && !(L.getD t true)) = true)
  (hQ : ∀ c a w, Q (.panic c) (a.put oi.dst v) w → Q (.panic c) a w) (hy : YieldsIf P ops (fun w => A w ∧ B w) oi v a) (hS : A w ∧ B w)
  (h : wpAnyT P md ops Q A B t f (L.setIfInBounds i true) (a.put oi.dst v) w) : wpAnyT P md ops Q A B t (f + 1) L a w := by
 simp only [Bool.and_eq_true, Bool.not_eq_true', beq_eq_false_iff_ne, ne_eq] at hwt
 exact firstT hi (Region.noSelect_spec hs) hQ hwt.1.1 hwt.1.2 f L a w (Region.free_spec hi hf) (by simpa using hr) hwt.2 hy hS.1 hS.2 h
def AllReadyT (P : Program) (md : Region.Mode) (ops : Array Oper) (Q : Exit → Act → World → Prop) (A B : World → Prop) (t f : Nat) (L : Array Bool) (a : Act) (w : World) (rs : List Nat) : Prop :=
 ∀ i ∈ rs, wpOp P ops Q i (fun a' w' => (A w' ∧ ((L.setIfInBounds i true).getD t true = false → B w')) ∧ wpAnyT P md ops Q A B t f (L.setIfInBounds i true) a' w') a w
theorem anyT_ready {rs : List Nat} {f : Nat} {L : Array Bool} {a : Act} {w : World} (hr : Region.ready md ops L = rs) (hne : rs ≠ []) (h : AllReadyT P md ops Q A B t f L a w rs) : wpAnyT P md ops Q A B t (f + 1) L a w :=
 ⟨fun h0 => absurd (hr ▸ h0) hne, hr ▸ h⟩
theorem AllReadyT.nil {f : Nat} {L : Array Bool} {a : Act} {w : World} : AllReadyT P md ops Q A B t f L a w [] := fun _ h => by cases h
theorem AllReadyT.cons {f : Nat} {L : Array Bool} {a : Act} {w : World} {i : Nat} {o : Oper} {rs : List Nat} (ho : ops[i]? = some o)
  (h : ∀ K' : Act → World → Prop, Shut (∀ a w, A w → ((L.setIfInBounds i true).getD t true = true ∨ B w) → wpAnyT P md ops Q A B t f (L.setIfInBounds i true) a w → K' a w) → if Region.wanted o (yielded ops a.tmps) = true then Oper.wp P o a w K' Q else K' (a.put o.dst undef) w)
  (hs : AllReadyT P md ops Q A B t f L a w rs) : AllReadyT P md ops Q A B t f L a w (i :: rs) := fun j hj => by
 rcases List.mem_cons.1 hj with rfl | hj
 ·exact wpOp_step ho (fun K' hK => h K' (fun a w hA hB hW => hK a w ⟨⟨hA, fun e => hB.resolve_left (fun e' => by rw [e] at e'; cases e')⟩, hW⟩))
 ·exact hs j hj
theorem anyT_done {L : Array Bool} {a : Act} {w : World} (hr : Region.ready md ops L = []) (h : Q .normal a w) : ∀ f, wpAnyT P md ops Q A B t f L a w
 | 0 => ⟨hr, h⟩
 | _ + 1 => ⟨fun _ => h, by rw [hr]; simp⟩
theorem wp_region_T {id : Nat} {a : Act} {w : World} (A B : World → Prop) (t : Nat) (hm : P.follows .mixedOrders = true) (h : wpAnyT P .any ops (NoPanic Q) A B t ops.size (Array.replicate ops.size false) a w.drew) : (Code.region id ops true).wp P Q a w :=
 wp_region_noPanic (wp_region_any hm (any_of_T _ _ _ _ h))
end
end Go.Proofs.Qw
namespace Go.Proofs.YtjpgffihafknlaaGreatDoor
open Go.RowKit
open Go.Proofs.Qw
attribute [local go_sem ↓] Go.wp_at_zero Go.wp_at_succ
theorem one_node (w : World) (x1 x2 x3 x4 : Value) : ∃ W1, w.alloc (.cells #[x1, x2, x3, x4] 25) = W1 ∧ Below w.heap.size w W1 ∧ w.heap.size + 1 = W1.heap.size ∧ W1.heap[w.heap.size]? = some (.cells #[x1, x2, x3, x4] 25) :=
 ⟨_, rfl, (Below.refl _ _).alloc (Nat.le_refl _) _, by simp, heap_new _ _ rfl⟩
end Go.Proofs.YtjpgffihafknlaaGreatDoor
namespace Go.Proofs.YtjpgffihafknlaaGreatDoor
open Go.RowKit
open Go.Proofs.Qw
attribute [local go_sem] Oper.semAt_some
theorem nods_mono' {h h' : Nat} (hh : h ≤ h') {own : Bool} {w : World} {S : Nat → Prop} {v : Value} {l : List Nod} (hv : NodsR own h w S v l) : NodsR own h' w S v l := hv.imp fun _ _ _ g => rdNod_mono hh g
end Go.Proofs.YtjpgffihafknlaaGreatDoor
namespace Go.Proofs.YtjpgffihafknlaaGreatDoor
open Go.RowKit
open Go.Proofs.Qw
attribute [local go_sem] Oper.semAt_some
theorem setRow_heap_ne2 (w : World) (g : Nat) (cs : Array Value) {b : Nat} (h : b ≠ g) : (w.setRow g cs).heap[b]? = w.heap[b]? := by
 unfold World.setRow
 simp only [Array.getElem?_modify]
 rw [if_neg (Ne.symm h)]
theorem setRow_below2 {n g : Nat} {w W : World} {cs : Array Value} (h : Below n w W) (hg : n ≤ g) : Below n w (W.setRow g cs) :=
 h.trans ⟨rfl, rfl, rfl, by simp [World.setRow], fun k hk => setRow_heap_ne2 _ _ _ (by omega)⟩
theorem results_tags {fn : Func} {p : Tmp} (h : fn.results = #[.cell p 115]) (tmps : Array Value) (w : World) (B : Nat) (vs : Array Value) (hp : tmps.getD p undef = .pointer (some ⟨B, 0, none⟩))
  (hB : w.heap[B]? = some (.cells vs 115)) (hs : (Tryz.prog.info? 115).map (·.size) = some vs.size) : (results fn tmps).run Tryz.prog w = .ok (.agg vs) w := by
 have h1 := run_loadVar_row (P := Tryz.prog) w B 115 115 _ _ _ hB Tryz.underlying115 rfl hs
 have hp' : tmps[p]?.getD undef = .pointer (some ⟨B, 0, none⟩) := by simpa using hp
 simp [results, h, hp', asAddr, h1]
def tagV (B1 B2 B3 B4 B5 B6 B7 B8 B9 B10 B11 B12 B13 B14 B15 B16 : Nat) : Array Value := #[.slice none 0 0, .int .i64 1, .slice (some ⟨B1, 0, none⟩) 1 1, .int .i64 2, .slice (some ⟨B2, 0, none⟩) 1 1, .int .i64 3, .slice (some ⟨B3, 0, none⟩) 1 1, .int .i64 3, .slice (some ⟨B4, 0, none⟩) 1 1, .int .i64 3, .slice (some ⟨B5, 0, none⟩) 1 1, .int .i64 3, .slice (some ⟨B6, 0, none⟩) 1 1, .int .i64 2, .slice (some ⟨B7, 0, none⟩) 1 1, .int .i64 2, .slice (some ⟨B8, 0, none⟩) 1 1, .int .i64 2, .slice (some ⟨B9, 0, none⟩) 1 1, .int .i64 3, .slice (some ⟨B10, 0, none⟩) 1 1, .int .i64 4, .slice (some ⟨B11, 0, none⟩) 2 2, .int .i64 4, .slice (some ⟨B12, 0, none⟩) 2 2, .int .i64 4, .slice (some ⟨B13, 0, none⟩) 2 2, .int .i64 4, .slice (some ⟨B14, 0, none⟩) 3 3, .int .i64 4, .slice (some ⟨B15, 0, none⟩) 1 1, .int .i64 4, .slice (some ⟨B16, 0, none⟩) 1 1, .int .i64 5]
set_option maxRecDepth 100000 in
set_option maxHeartbeats 4000000 in
theorem tagTab_ok (w : World) : Calls Tryz.prog 75 #[] w fun e w' => (∃ B1 B2 B3 B4 B5 B6 B7 B8 B9 B10 B11 B12 B13 B14 B15 B16, e = .returned (.agg (tagV B1 B2 B3 B4 B5 B6 B7 B8 B9 B10 B11 B12 B13 B14 B15 B16))) ∧ Below w.heap.size w w' := by
 go_enter Tryz.func75, Tryz.ntmps75
 go_upto_region 1 with fail
 generalize hW : World.alloc w _ = W0
 have hz : W0.heap[w.heap.size]? = some (.cells #[.slice none 0 0, .int .i64 0, .slice none 0 0, .int .i64 0, .slice none 0 0, .int .i64 0, .slice none 0 0, .int .i64 0, .slice none 0 0, .int .i64 0, .slice none 0 0, .int .i64 0, .slice none 0 0, .int .i64 0, .slice none 0 0, .int .i64 0, .slice none 0 0, .int .i64 0, .slice none 0 0, .int .i64 0, .slice none 0 0, .int .i64 0, .slice none 0 0, .int .i64 0, .slice none 0 0, .int .i64 0, .slice none 0 0, .int .i64 0, .slice none 0 0, .int .i64 0, .slice none 0 0, .int .i64 0, .slice none 0 0, .int .i64 0] 115) := hW ▸ heap_new _ _ rfl
 have hw0 : Below w.heap.size w W0 := hW ▸ (Below.refl _ _).alloc (Nat.le_refl _) _
 have hlt : w.heap.size < W0.heap.size := by rw [← hW]; simp
 clear hW
 have hb0 : Below W0.heap.size W0 W0 := Below.refl _ _
 refine wp_region_lit ?_
 refine wpList_build rfl _ _ rfl (by kernel_rfl) ?_
 try simp only [Act.put, qI, qX, qY]
 refine wpList_plain rfl fun K hK => ?_
 go_simp
 generalize hW1 : World.alloc W0 _ = W1
 have hb1 : Below W0.heap.size W0 W1 := hW1 ▸ hb0.alloc hb0.size _
 generalize hB1 : W0.heap.size = B1
 clear hW1 hB1
 refine hK _ _ ?_
 clear hK K
 try simp only [Act.put, qI, qX, qY]
 refine wpList_build rfl _ _ rfl (by kernel_rfl) ?_
 try simp only [Act.put, qI, qX, qY]
 refine wpList_plain rfl fun K hK => ?_
 go_simp
 generalize hW2 : World.alloc W1 _ = W2
 have hb2 : Below W0.heap.size W0 W2 := hW2 ▸ hb1.alloc hb1.size _
 generalize hB2 : W1.heap.size = B2
 clear hW2 hB2
 refine hK _ _ ?_
 clear hK K
 try simp only [Act.put, qI, qX, qY]
 refine wpList_build rfl _ _ rfl (by kernel_rfl) ?_
 try simp only [Act.put, qI, qX, qY]
 refine wpList_plain rfl fun K hK => ?_
 go_simp
 generalize hW3 : World.alloc W2 _ = W3
 have hb3 : Below W0.heap.size W0 W3 := hW3 ▸ hb2.alloc hb2.size _
 generalize hB3 : W2.heap.size = B3
 clear hW3 hB3
 refine hK _ _ ?_
 clear hK K
 try simp only [Act.put, qI, qX, qY]
 refine wpList_build rfl _ _ rfl (by kernel_rfl) ?_
 try simp only [Act.put, qI, qX, qY]
 refine wpList_plain rfl fun K hK => ?_
 go_simp
 generalize hW4 : World.alloc W3 _ = W4
 have hb4 : Below W0.heap.size W0 W4 := hW4 ▸ hb3.alloc hb3.size _
 generalize hB4 : W3.heap.size = B4
 clear hW4 hB4
 refine hK _ _ ?_
 clear hK K
 try simp only [Act.put, qI, qX, qY]
 refine wpList_build rfl _ _ rfl (by kernel_rfl) ?_
 try simp only [Act.put, qI, qX, qY]
 refine wpList_plain rfl fun K hK => ?_
 go_simp
 generalize hW5 : World.alloc W4 _ = W5
 have hb5 : Below W0.heap.size W0 W5 := hW5 ▸ hb4.alloc hb4.size _
 generalize hB5 : W4.heap.size = B5
 clear hW5 hB5
 refine hK _ _ ?_
 clear hK K
 try simp only [Act.put, qI, qX, qY]
 refine wpList_build rfl _ _ rfl (by kernel_rfl) ?_
 try simp only [Act.put, qI, qX, qY]
 refine wpList_plain rfl fun K hK => ?_
 go_simp
 generalize hW6 : World.alloc W5 _ = W6
 have hb6 : Below W0.heap.size W0 W6 := hW6 ▸ hb5.alloc hb5.size _
 generalize hB6 : W5.heap.size = B6
 clear hW6 hB6
 refine hK _ _ ?_
 clear hK K
 try simp only [Act.put, qI, qX, qY]
 refine wpList_build rfl _ _ rfl (by kernel_rfl) ?_
 try simp only [Act.put, qI, qX, qY]
 refine wpList_plain rfl fun K hK => ?_
 go_simp
 generalize hW7 : World.alloc W6 _ = W7
 have hb7 : Below W0.heap.size W0 W7 := hW7 ▸ hb6.alloc hb6.size _
 generalize hB7 : W6.heap.size = B7
 clear hW7 hB7
 refine hK _ _ ?_
 clear hK K
 try simp only [Act.put, qI, qX, qY]
 refine wpList_build rfl _ _ rfl (by kernel_rfl) ?_
 try simp only [Act.put, qI, qX, qY]
 refine wpList_plain rfl fun K hK => ?_
 go_simp
 generalize hW8 : World.alloc W7 _ = W8
 have hb8 : Below W0.heap.size W0 W8 := hW8 ▸ hb7.alloc hb7.size _
 generalize hB8 : W7.heap.size = B8
 clear hW8 hB8
 refine hK _ _ ?_
 clear hK K
 try simp only [Act.put, qI, qX, qY]
 refine wpList_build rfl _ _ rfl (by kernel_rfl) ?_
 try simp only [Act.put, qI, qX, qY]
 refine wpList_plain rfl fun K hK => ?_
 go_simp
 generalize hW9 : World.alloc W8 _ = W9
 have hb9 : Below W0.heap.size W0 W9 := hW9 ▸ hb8.alloc hb8.size _
 generalize hB9 : W8.heap.size = B9
 clear hW9 hB9
 refine hK _ _ ?_
 clear hK K
 try simp only [Act.put, qI, qX, qY]
 refine wpList_build rfl _ _ rfl (by kernel_rfl) ?_
 try simp only [Act.put, qI, qX, qY]
 refine wpList_plain rfl fun K hK => ?_
 go_simp
 generalize hW10 : World.alloc W9 _ = W10
 have hb10 : Below W0.heap.size W0 W10 := hW10 ▸ hb9.alloc hb9.size _
 generalize hB10 : W9.heap.size = B10
 clear hW10 hB10
 refine hK _ _ ?_
 clear hK K
 try simp only [Act.put, qI, qX, qY]
 refine wpList_build rfl _ _ rfl (by kernel_rfl) ?_
 try simp only [Act.put, qI, qX, qY]
 refine wpList_plain rfl fun K hK => ?_
 go_simp
 generalize hW11 : World.alloc W10 _ = W11
 have hb11 : Below W0.heap.size W0 W11 := hW11 ▸ hb10.alloc hb10.size _
 generalize hB11 : W10.heap.size = B11
 clear hW11 hB11
 refine hK _ _ ?_
 clear hK K
 try simp only [Act.put, qI, qX, qY]
 refine wpList_build rfl _ _ rfl (by kernel_rfl) ?_
 try simp only [Act.put, qI, qX, qY]
 refine wpList_plain rfl fun K hK => ?_
 go_simp
 generalize hW12 : World.alloc W11 _ = W12
 have hb12 : Below W0.heap.size W0 W12 := hW12 ▸ hb11.alloc hb11.size _
 generalize hB12 : W11.heap.size = B12
 clear hW12 hB12
 refine hK _ _ ?_
 clear hK K
 try simp only [Act.put, qI, qX, qY]
 refine wpList_build rfl _ _ rfl (by kernel_rfl) ?_
 try simp only [Act.put, qI, qX, qY]
 refine wpList_plain rfl fun K hK => ?_
 go_simp
 generalize hW13 : World.alloc W12 _ = W13
 have hb13 : Below W0.heap.size W0 W13 := hW13 ▸ hb12.alloc hb12.size _
 generalize hB13 : W12.heap.size = B13
 clear hW13 hB13
 refine hK _ _ ?_
 clear hK K
 try simp only [Act.put, qI, qX, qY]
 refine wpList_build rfl _ _ rfl (by kernel_rfl) ?_
 try simp only [Act.put, qI, qX, qY]
 refine wpList_plain rfl fun K hK => ?_
 go_simp
 generalize hW14 : World.alloc W13 _ = W14
 have hb14 : Below W0.heap.size W0 W14 := hW14 ▸ hb13.alloc hb13.size _
 generalize hB14 : W13.heap.size = B14
 clear hW14 hB14
 refine hK _ _ ?_
 clear hK K
 try simp only [Act.put, qI, qX, qY]
 refine wpList_build rfl _ _ rfl (by kernel_rfl) ?_
 try simp only [Act.put, qI, qX, qY]
 refine wpList_plain rfl fun K hK => ?_
 go_simp
 generalize hW15 : World.alloc W14 _ = W15
 have hb15 : Below W0.heap.size W0 W15 := hW15 ▸ hb14.alloc hb14.size _
 generalize hB15 : W14.heap.size = B15
 clear hW15 hB15
 refine hK _ _ ?_
 clear hK K
 try simp only [Act.put, qI, qX, qY]
 refine wpList_build rfl _ _ rfl (by kernel_rfl) ?_
 try simp only [Act.put, qI, qX, qY]
 refine wpList_plain rfl fun K hK => ?_
 go_simp
 generalize hW16 : World.alloc W15 _ = W16
 have hb16 : Below W0.heap.size W0 W16 := hW16 ▸ hb15.alloc hb15.size _
 generalize hB16 : W15.heap.size = B16
 clear hW16 hB16
 refine hK _ _ ?_
 clear hK K
 try simp only [Act.put, qI, qX, qY]
 refine wpList_build rfl _ _ rfl (by kernel_rfl) ?_
 try simp only [Act.put, qI, qX, qY]
 refine wpList_build rfl _ _ rfl (by kernel_rfl) ?_
 have hz16 := heap_below hb16 hz
 have hbw : Below w.heap.size w W16 := hw0.trans (hb16.mono hw0.size)
 refine wpList_store_row rfl _ _ _ rfl w.heap.size (tagV B1 B2 B3 B4 B5 B6 B7 B8 B9 B10 B11 B12 B13 B14 B15 B16) (by kernel_rfl) (by kernel_rfl) 115 _ hz16 (by kernel_rfl) (by kernel_rfl) (by kernel_rfl) ?_
 generalize hact : Act.put _ _ _ = a9
 have ha9 : a9.tmps.getD 0 undef = .pointer (some ⟨w.heap.size, 0, none⟩) := by rw [← hact]; kernel_rfl
 have hd9 : a9.defers = [] := by rw [← hact]; kernel_rfl
 clear hact
 refine wpList_nil ?_
 have hW := setRow_heap W16 w.heap.size _ (tagV B1 B2 B3 B4 B5 B6 B7 B8 B9 B10 B11 B12 B13 B14 B15 B16) 115 _ hz16
 have hB : Below w.heap.size w (W16.setRow w.heap.size (tagV B1 B2 B3 B4 B5 B6 B7 B8 B9 B10 B11 B12 B13 B14 B15 B16)) := setRow_below2 hbw (Nat.le_refl _)
 simp only [Exit.then]
 refine ‹∀ (a : Act) (w : World), Code.wp _ _ _ a w → _› _ _ ?_
 refine wp_ret ?_
 show bodyPost _ _ _ Exit.ret a9 _
 refine bodyPost_ret (results_tags rfl _ _ w.heap.size _ ha9 hW (by kernel_rfl)) hd9 ?_
 exact ⟨⟨_, _, _, _, _, _, _, _, _, _, _, _, _, _, _, _, rfl⟩, hB⟩
end Go.Proofs.YtjpgffihafknlaaGreatDoor
namespace Go.Proofs.YtjpgffihafknlaaGreatDoor
open Go.RowKit
open Go.Proofs.Qw
attribute [local go_sem] Oper.semAt_some
set_option maxRecDepth 100000
set_option maxHeartbeats 4000000
theorem results_tagrow {fn : Func} {p : Tmp} (h : fn.results = #[.cell p 85]) (tmps : Array Value) (w : World) (B : Nat) (x y : Value) (hp : tmps.getD p undef = .pointer (some ⟨B, 0, none⟩)) (hg : w.heap[B]? = some (.cells #[x, y] 85)) :
  (results fn tmps).run Tryz.prog w = .ok (.agg #[x, y]) w :=
 results_cell_row h tmps w B _ _ _ _ hp hg Tryz.underlying85 rfl (by kernel_rfl)
def OfSaid (c : Int) (w : World) (e : Ending) (w' : World) : Prop := (∃ s, e = .returned (.agg #[s, .int .i64 c])) ∧ Below w.heap.size w w'
theorem tagsOf_0 (w : World) : Calls Tryz.prog 45 #[.int .i64 0] w (OfSaid 1 w) := by
 obtain ⟨W1, hW1, hB, hz, hB1⟩ : ∃ W1, w.alloc (.cells #[.slice none 0 0, .int .i64 0] 85) = W1 ∧ Below w.heap.size w W1 ∧ w.heap.size + 1 = W1.heap.size ∧ W1.heap[w.heap.size]? = some (.cells #[.slice none 0 0, .int .i64 0] 85) :=
  ⟨_, rfl, (Below.refl _ _).alloc (Nat.le_refl _) _, by simp, heap_new _ _ rfl⟩
 have H1 := Lib.hid hB1
 have HB := Lib.hid hB
 clear hB hB1
 go_enter Tryz.func45, Tryz.ntmps45
 go_wp2_with (go_at_call 75; refine (tagTab_ok _).mono ?_; rintro e w2 ⟨⟨B1, B2, B3, B4, B5, B6, B7, B8, B9, B10, B11, B12, B13, B14, B15, B16, rfl⟩, hb2⟩; have hB2 := heap_below hb2 H1.out; obtain ⟨q1, g1⟩ := blk hB2; have hix : ∀ X, Sem.run Tryz.prog (Instr.index 115 (.agg (tagV B1 B2 B3 B4 B5 B6 B7 B8 B9 B10 B11 B12 B13 B14 B15 B16)) (.int .i64 0)) X = .ok (.agg #[.slice none 0 0, .int .i64 1]) X := fun X => by kernel_rfl)
 refine bodyPost_ret (results_tagrow rfl _ _ w.heap.size (.slice none 0 0) (.int .i64 1) rfl (by simp [heap_set, putIn, hB2])) rfl ?_
 refine ⟨⟨_, rfl⟩, ?_⟩
 exact (((HB.out.trans (hb2.mono (by omega))).setCell (Nat.le_refl _) _).setCell (Nat.le_refl _) _)
theorem tagsOf_1 (w : World) : Calls Tryz.prog 45 #[.int .i64 1] w (OfSaid 2 w) := by
 obtain ⟨W1, hW1, hB, hz, hB1⟩ : ∃ W1, w.alloc (.cells #[.slice none 0 0, .int .i64 0] 85) = W1 ∧ Below w.heap.size w W1 ∧ w.heap.size + 1 = W1.heap.size ∧ W1.heap[w.heap.size]? = some (.cells #[.slice none 0 0, .int .i64 0] 85) :=
  ⟨_, rfl, (Below.refl _ _).alloc (Nat.le_refl _) _, by simp, heap_new _ _ rfl⟩
 have H1 := Lib.hid hB1
 have HB := Lib.hid hB
 clear hB hB1
 go_enter Tryz.func45, Tryz.ntmps45
 go_wp2_with (go_at_call 75; refine (tagTab_ok _).mono ?_; rintro e w2 ⟨⟨B1, B2, B3, B4, B5, B6, B7, B8, B9, B10, B11, B12, B13, B14, B15, B16, rfl⟩, hb2⟩; have hB2 := heap_below hb2 H1.out; obtain ⟨q1, g1⟩ := blk hB2; have hix : ∀ X, Sem.run Tryz.prog (Instr.index 115 (.agg (tagV B1 B2 B3 B4 B5 B6 B7 B8 B9 B10 B11 B12 B13 B14 B15 B16)) (.int .i64 1)) X = .ok (.agg #[.slice (some ⟨B1, 0, none⟩) 1 1, .int .i64 2]) X := fun X => by kernel_rfl)
 refine bodyPost_ret (results_tagrow rfl _ _ w.heap.size (.slice (some ⟨B1, 0, none⟩) 1 1) (.int .i64 2) rfl (by simp [heap_set, putIn, hB2])) rfl ?_
 refine ⟨⟨_, rfl⟩, ?_⟩
 exact (((HB.out.trans (hb2.mono (by omega))).setCell (Nat.le_refl _) _).setCell (Nat.le_refl _) _)
theorem tagsOf_2 (w : World) : Calls Tryz.prog 45 #[.int .i64 2] w (OfSaid 3 w) := by
 obtain ⟨W1, hW1, hB, hz, hB1⟩ : ∃ W1, w.alloc (.cells #[.slice none 0 0, .int .i64 0] 85) = W1 ∧ Below w.heap.size w W1 ∧ w.heap.size + 1 = W1.heap.size ∧ W1.heap[w.heap.size]? = some (.cells #[.slice none 0 0, .int .i64 0] 85) :=
  ⟨_, rfl, (Below.refl _ _).alloc (Nat.le_refl _) _, by simp, heap_new _ _ rfl⟩
 have H1 := Lib.hid hB1
 have HB := Lib.hid hB
 clear hB hB1
 go_enter Tryz.func45, Tryz.ntmps45
 go_wp2_with (go_at_call 75; refine (tagTab_ok _).mono ?_; rintro e w2 ⟨⟨B1, B2, B3, B4, B5, B6, B7, B8, B9, B10, B11, B12, B13, B14, B15, B16, rfl⟩, hb2⟩; have hB2 := heap_below hb2 H1.out; obtain ⟨q1, g1⟩ := blk hB2; have hix : ∀ X, Sem.run Tryz.prog (Instr.index 115 (.agg (tagV B1 B2 B3 B4 B5 B6 B7 B8 B9 B10 B11 B12 B13 B14 B15 B16)) (.int .i64 2)) X = .ok (.agg #[.slice (some ⟨B2, 0, none⟩) 1 1, .int .i64 3]) X := fun X => by kernel_rfl)
 refine bodyPost_ret (results_tagrow rfl _ _ w.heap.size (.slice (some ⟨B2, 0, none⟩) 1 1) (.int .i64 3) rfl (by simp [heap_set, putIn, hB2])) rfl ?_
 refine ⟨⟨_, rfl⟩, ?_⟩
 exact (((HB.out.trans (hb2.mono (by omega))).setCell (Nat.le_refl _) _).setCell (Nat.le_refl _) _)
theorem tagsOf_3 (w : World) : Calls Tryz.prog 45 #[.int .i64 3] w (OfSaid 3 w) := by
 obtain ⟨W1, hW1, hB, hz, hB1⟩ : ∃ W1, w.alloc (.cells #[.slice none 0 0, .int .i64 0] 85) = W1 ∧ Below w.heap.size w W1 ∧ w.heap.size + 1 = W1.heap.size ∧ W1.heap[w.heap.size]? = some (.cells #[.slice none 0 0, .int .i64 0] 85) :=
  ⟨_, rfl, (Below.refl _ _).alloc (Nat.le_refl _) _, by simp, heap_new _ _ rfl⟩
 have H1 := Lib.hid hB1
 have HB := Lib.hid hB
 clear hB hB1
 go_enter Tryz.func45, Tryz.ntmps45
 go_wp2_with (go_at_call 75; refine (tagTab_ok _).mono ?_; rintro e w2 ⟨⟨B1, B2, B3, B4, B5, B6, B7, B8, B9, B10, B11, B12, B13, B14, B15, B16, rfl⟩, hb2⟩; have hB2 := heap_below hb2 H1.out; obtain ⟨q1, g1⟩ := blk hB2; have hix : ∀ X, Sem.run Tryz.prog (Instr.index 115 (.agg (tagV B1 B2 B3 B4 B5 B6 B7 B8 B9 B10 B11 B12 B13 B14 B15 B16)) (.int .i64 3)) X = .ok (.agg #[.slice (some ⟨B3, 0, none⟩) 1 1, .int .i64 3]) X := fun X => by kernel_rfl)
 refine bodyPost_ret (results_tagrow rfl _ _ w.heap.size (.slice (some ⟨B3, 0, none⟩) 1 1) (.int .i64 3) rfl (by simp [heap_set, putIn, hB2])) rfl ?_
 refine ⟨⟨_, rfl⟩, ?_⟩
 exact (((HB.out.trans (hb2.mono (by omega))).setCell (Nat.le_refl _) _).setCell (Nat.le_refl _) _)
theorem tagsOf_4 (w : World) : Calls Tryz.prog 45 #[.int .i64 4] w (OfSaid 3 w) := by
 obtain ⟨W1, hW1, hB, hz, hB1⟩ : ∃ W1, w.alloc (.cells #[.slice none 0 0, .int .i64 0] 85) = W1 ∧ Below w.heap.size w W1 ∧ w.heap.size + 1 = W1.heap.size ∧ W1.heap[w.heap.size]? = some (.cells #[.slice none 0 0, .int .i64 0] 85) :=
  ⟨_, rfl, (Below.refl _ _).alloc (Nat.le_refl _) _, by simp, heap_new _ _ rfl⟩
 have H1 := Lib.hid hB1
 have HB := Lib.hid hB
 clear hB hB1
 go_enter Tryz.func45, Tryz.ntmps45
 go_wp2_with (go_at_call 75; refine (tagTab_ok _).mono ?_; rintro e w2 ⟨⟨B1, B2, B3, B4, B5, B6, B7, B8, B9, B10, B11, B12, B13, B14, B15, B16, rfl⟩, hb2⟩; have hB2 := heap_below hb2 H1.out; obtain ⟨q1, g1⟩ := blk hB2; have hix : ∀ X, Sem.run Tryz.prog (Instr.index 115 (.agg (tagV B1 B2 B3 B4 B5 B6 B7 B8 B9 B10 B11 B12 B13 B14 B15 B16)) (.int .i64 4)) X = .ok (.agg #[.slice (some ⟨B4, 0, none⟩) 1 1, .int .i64 3]) X := fun X => by kernel_rfl)
 refine bodyPost_ret (results_tagrow rfl _ _ w.heap.size (.slice (some ⟨B4, 0, none⟩) 1 1) (.int .i64 3) rfl (by simp [heap_set, putIn, hB2])) rfl ?_
 refine ⟨⟨_, rfl⟩, ?_⟩
 exact (((HB.out.trans (hb2.mono (by omega))).setCell (Nat.le_refl _) _).setCell (Nat.le_refl _) _)
theorem tagsOf_5 (w : World) : Calls Tryz.prog 45 #[.int .i64 5] w (OfSaid 3 w) := by
 obtain ⟨W1, hW1, hB, hz, hB1⟩ : ∃ W1, w.alloc (.cells #[.slice none 0 0, .int .i64 0] 85) = W1 ∧ Below w.heap.size w W1 ∧ w.heap.size + 1 = W1.heap.size ∧ W1.heap[w.heap.size]? = some (.cells #[.slice none 0 0, .int .i64 0] 85) :=
  ⟨_, rfl, (Below.refl _ _).alloc (Nat.le_refl _) _, by simp, heap_new _ _ rfl⟩
 have H1 := Lib.hid hB1
 have HB := Lib.hid hB
 clear hB hB1
 go_enter Tryz.func45, Tryz.ntmps45
 go_wp2_with (go_at_call 75; refine (tagTab_ok _).mono ?_; rintro e w2 ⟨⟨B1, B2, B3, B4, B5, B6, B7, B8, B9, B10, B11, B12, B13, B14, B15, B16, rfl⟩, hb2⟩; have hB2 := heap_below hb2 H1.out; obtain ⟨q1, g1⟩ := blk hB2; have hix : ∀ X, Sem.run Tryz.prog (Instr.index 115 (.agg (tagV B1 B2 B3 B4 B5 B6 B7 B8 B9 B10 B11 B12 B13 B14 B15 B16)) (.int .i64 5)) X = .ok (.agg #[.slice (some ⟨B5, 0, none⟩) 1 1, .int .i64 3]) X := fun X => by kernel_rfl)
 refine bodyPost_ret (results_tagrow rfl _ _ w.heap.size (.slice (some ⟨B5, 0, none⟩) 1 1) (.int .i64 3) rfl (by simp [heap_set, putIn, hB2])) rfl ?_
 refine ⟨⟨_, rfl⟩, ?_⟩
 exact (((HB.out.trans (hb2.mono (by omega))).setCell (Nat.le_refl _) _).setCell (Nat.le_refl _) _)
theorem tagsOf_6 (w : World) : Calls Tryz.prog 45 #[.int .i64 6] w (OfSaid 2 w) := by
 obtain ⟨W1, hW1, hB, hz, hB1⟩ : ∃ W1, w.alloc (.cells #[.slice none 0 0, .int .i64 0] 85) = W1 ∧ Below w.heap.size w W1 ∧ w.heap.size + 1 = W1.heap.size ∧ W1.heap[w.heap.size]? = some (.cells #[.slice none 0 0, .int .i64 0] 85) :=
  ⟨_, rfl, (Below.refl _ _).alloc (Nat.le_refl _) _, by simp, heap_new _ _ rfl⟩
 have H1 := Lib.hid hB1
 have HB := Lib.hid hB
 clear hB hB1
 go_enter Tryz.func45, Tryz.ntmps45
 go_wp2_with (go_at_call 75; refine (tagTab_ok _).mono ?_; rintro e w2 ⟨⟨B1, B2, B3, B4, B5, B6, B7, B8, B9, B10, B11, B12, B13, B14, B15, B16, rfl⟩, hb2⟩; have hB2 := heap_below hb2 H1.out; obtain ⟨q1, g1⟩ := blk hB2; have hix : ∀ X, Sem.run Tryz.prog (Instr.index 115 (.agg (tagV B1 B2 B3 B4 B5 B6 B7 B8 B9 B10 B11 B12 B13 B14 B15 B16)) (.int .i64 6)) X = .ok (.agg #[.slice (some ⟨B6, 0, none⟩) 1 1, .int .i64 2]) X := fun X => by kernel_rfl)
 refine bodyPost_ret (results_tagrow rfl _ _ w.heap.size (.slice (some ⟨B6, 0, none⟩) 1 1) (.int .i64 2) rfl (by simp [heap_set, putIn, hB2])) rfl ?_
 refine ⟨⟨_, rfl⟩, ?_⟩
 exact (((HB.out.trans (hb2.mono (by omega))).setCell (Nat.le_refl _) _).setCell (Nat.le_refl _) _)
theorem tagsOf_7 (w : World) : Calls Tryz.prog 45 #[.int .i64 7] w (OfSaid 2 w) := by
 obtain ⟨W1, hW1, hB, hz, hB1⟩ : ∃ W1, w.alloc (.cells #[.slice none 0 0, .int .i64 0] 85) = W1 ∧ Below w.heap.size w W1 ∧ w.heap.size + 1 = W1.heap.size ∧ W1.heap[w.heap.size]? = some (.cells #[.slice none 0 0, .int .i64 0] 85) :=
  ⟨_, rfl, (Below.refl _ _).alloc (Nat.le_refl _) _, by simp, heap_new _ _ rfl⟩
 have H1 := Lib.hid hB1
 have HB := Lib.hid hB
 clear hB hB1
 go_enter Tryz.func45, Tryz.ntmps45
 go_wp2_with (go_at_call 75; refine (tagTab_ok _).mono ?_; rintro e w2 ⟨⟨B1, B2, B3, B4, B5, B6, B7, B8, B9, B10, B11, B12, B13, B14, B15, B16, rfl⟩, hb2⟩; have hB2 := heap_below hb2 H1.out; obtain ⟨q1, g1⟩ := blk hB2; have hix : ∀ X, Sem.run Tryz.prog (Instr.index 115 (.agg (tagV B1 B2 B3 B4 B5 B6 B7 B8 B9 B10 B11 B12 B13 B14 B15 B16)) (.int .i64 7)) X = .ok (.agg #[.slice (some ⟨B7, 0, none⟩) 1 1, .int .i64 2]) X := fun X => by kernel_rfl)
 refine bodyPost_ret (results_tagrow rfl _ _ w.heap.size (.slice (some ⟨B7, 0, none⟩) 1 1) (.int .i64 2) rfl (by simp [heap_set, putIn, hB2])) rfl ?_
 refine ⟨⟨_, rfl⟩, ?_⟩
 exact (((HB.out.trans (hb2.mono (by omega))).setCell (Nat.le_refl _) _).setCell (Nat.le_refl _) _)
theorem tagsOf_8 (w : World) : Calls Tryz.prog 45 #[.int .i64 8] w (OfSaid 2 w) := by
 obtain ⟨W1, hW1, hB, hz, hB1⟩ : ∃ W1, w.alloc (.cells #[.slice none 0 0, .int .i64 0] 85) = W1 ∧ Below w.heap.size w W1 ∧ w.heap.size + 1 = W1.heap.size ∧ W1.heap[w.heap.size]? = some (.cells #[.slice none 0 0, .int .i64 0] 85) :=
  ⟨_, rfl, (Below.refl _ _).alloc (Nat.le_refl _) _, by simp, heap_new _ _ rfl⟩
 have H1 := Lib.hid hB1
 have HB := Lib.hid hB
 clear hB hB1
 go_enter Tryz.func45, Tryz.ntmps45
 go_wp2_with (go_at_call 75; refine (tagTab_ok _).mono ?_; rintro e w2 ⟨⟨B1, B2, B3, B4, B5, B6, B7, B8, B9, B10, B11, B12, B13, B14, B15, B16, rfl⟩, hb2⟩; have hB2 := heap_below hb2 H1.out; obtain ⟨q1, g1⟩ := blk hB2; have hix : ∀ X, Sem.run Tryz.prog (Instr.index 115 (.agg (tagV B1 B2 B3 B4 B5 B6 B7 B8 B9 B10 B11 B12 B13 B14 B15 B16)) (.int .i64 8)) X = .ok (.agg #[.slice (some ⟨B8, 0, none⟩) 1 1, .int .i64 2]) X := fun X => by kernel_rfl)
 refine bodyPost_ret (results_tagrow rfl _ _ w.heap.size (.slice (some ⟨B8, 0, none⟩) 1 1) (.int .i64 2) rfl (by simp [heap_set, putIn, hB2])) rfl ?_
 refine ⟨⟨_, rfl⟩, ?_⟩
 exact (((HB.out.trans (hb2.mono (by omega))).setCell (Nat.le_refl _) _).setCell (Nat.le_refl _) _)
theorem tagsOf_9 (w : World) : Calls Tryz.prog 45 #[.int .i64 9] w (OfSaid 3 w) := by
 obtain ⟨W1, hW1, hB, hz, hB1⟩ : ∃ W1, w.alloc (.cells #[.slice none 0 0, .int .i64 0] 85) = W1 ∧ Below w.heap.size w W1 ∧ w.heap.size + 1 = W1.heap.size ∧ W1.heap[w.heap.size]? = some (.cells #[.slice none 0 0, .int .i64 0] 85) :=
  ⟨_, rfl, (Below.refl _ _).alloc (Nat.le_refl _) _, by simp, heap_new _ _ rfl⟩
 have H1 := Lib.hid hB1
 have HB := Lib.hid hB
 clear hB hB1
 go_enter Tryz.func45, Tryz.ntmps45
 go_wp2_with (go_at_call 75; refine (tagTab_ok _).mono ?_; rintro e w2 ⟨⟨B1, B2, B3, B4, B5, B6, B7, B8, B9, B10, B11, B12, B13, B14, B15, B16, rfl⟩, hb2⟩; have hB2 := heap_below hb2 H1.out; obtain ⟨q1, g1⟩ := blk hB2; have hix : ∀ X, Sem.run Tryz.prog (Instr.index 115 (.agg (tagV B1 B2 B3 B4 B5 B6 B7 B8 B9 B10 B11 B12 B13 B14 B15 B16)) (.int .i64 9)) X = .ok (.agg #[.slice (some ⟨B9, 0, none⟩) 1 1, .int .i64 3]) X := fun X => by kernel_rfl)
 refine bodyPost_ret (results_tagrow rfl _ _ w.heap.size (.slice (some ⟨B9, 0, none⟩) 1 1) (.int .i64 3) rfl (by simp [heap_set, putIn, hB2])) rfl ?_
 refine ⟨⟨_, rfl⟩, ?_⟩
 exact (((HB.out.trans (hb2.mono (by omega))).setCell (Nat.le_refl _) _).setCell (Nat.le_refl _) _)
theorem tagsOf_10 (w : World) : Calls Tryz.prog 45 #[.int .i64 10] w (OfSaid 4 w) := by
 obtain ⟨W1, hW1, hB, hz, hB1⟩ : ∃ W1, w.alloc (.cells #[.slice none 0 0, .int .i64 0] 85) = W1 ∧ Below w.heap.size w W1 ∧ w.heap.size + 1 = W1.heap.size ∧ W1.heap[w.heap.size]? = some (.cells #[.slice none 0 0, .int .i64 0] 85) :=
  ⟨_, rfl, (Below.refl _ _).alloc (Nat.le_refl _) _, by simp, heap_new _ _ rfl⟩
 have H1 := Lib.hid hB1
 have HB := Lib.hid hB
 clear hB hB1
 go_enter Tryz.func45, Tryz.ntmps45
 go_wp2_with (go_at_call 75; refine (tagTab_ok _).mono ?_; rintro e w2 ⟨⟨B1, B2, B3, B4, B5, B6, B7, B8, B9, B10, B11, B12, B13, B14, B15, B16, rfl⟩, hb2⟩; have hB2 := heap_below hb2 H1.out; obtain ⟨q1, g1⟩ := blk hB2; have hix : ∀ X, Sem.run Tryz.prog (Instr.index 115 (.agg (tagV B1 B2 B3 B4 B5 B6 B7 B8 B9 B10 B11 B12 B13 B14 B15 B16)) (.int .i64 10)) X = .ok (.agg #[.slice (some ⟨B10, 0, none⟩) 1 1, .int .i64 4]) X := fun X => by kernel_rfl)
 refine bodyPost_ret (results_tagrow rfl _ _ w.heap.size (.slice (some ⟨B10, 0, none⟩) 1 1) (.int .i64 4) rfl (by simp [heap_set, putIn, hB2])) rfl ?_
 refine ⟨⟨_, rfl⟩, ?_⟩
 exact (((HB.out.trans (hb2.mono (by omega))).setCell (Nat.le_refl _) _).setCell (Nat.le_refl _) _)
theorem tagsOf_11 (w : World) : Calls Tryz.prog 45 #[.int .i64 11] w (OfSaid 4 w) := by
 obtain ⟨W1, hW1, hB, hz, hB1⟩ : ∃ W1, w.alloc (.cells #[.slice none 0 0, .int .i64 0] 85) = W1 ∧ Below w.heap.size w W1 ∧ w.heap.size + 1 = W1.heap.size ∧ W1.heap[w.heap.size]? = some (.cells #[.slice none 0 0, .int .i64 0] 85) :=
  ⟨_, rfl, (Below.refl _ _).alloc (Nat.le_refl _) _, by simp, heap_new _ _ rfl⟩
 have H1 := Lib.hid hB1
 have HB := Lib.hid hB
 clear hB hB1
 go_enter Tryz.func45, Tryz.ntmps45
 go_wp2_with (go_at_call 75; refine (tagTab_ok _).mono ?_; rintro e w2 ⟨⟨B1, B2, B3, B4, B5, B6, B7, B8, B9, B10, B11, B12, B13, B14, B15, B16, rfl⟩, hb2⟩; have hB2 := heap_below hb2 H1.out; obtain ⟨q1, g1⟩ := blk hB2; have hix : ∀ X, Sem.run Tryz.prog (Instr.index 115 (.agg (tagV B1 B2 B3 B4 B5 B6 B7 B8 B9 B10 B11 B12 B13 B14 B15 B16)) (.int .i64 11)) X = .ok (.agg #[.slice (some ⟨B11, 0, none⟩) 2 2, .int .i64 4]) X := fun X => by kernel_rfl)
 refine bodyPost_ret (results_tagrow rfl _ _ w.heap.size (.slice (some ⟨B11, 0, none⟩) 2 2) (.int .i64 4) rfl (by simp [heap_set, putIn, hB2])) rfl ?_
 refine ⟨⟨_, rfl⟩, ?_⟩
 exact (((HB.out.trans (hb2.mono (by omega))).setCell (Nat.le_refl _) _).setCell (Nat.le_refl _) _)
theorem tagsOf_12 (w : World) : Calls Tryz.prog 45 #[.int .i64 12] w (OfSaid 4 w) := by
 obtain ⟨W1, hW1, hB, hz, hB1⟩ : ∃ W1, w.alloc (.cells #[.slice none 0 0, .int .i64 0] 85) = W1 ∧ Below w.heap.size w W1 ∧ w.heap.size + 1 = W1.heap.size ∧ W1.heap[w.heap.size]? = some (.cells #[.slice none 0 0, .int .i64 0] 85) :=
  ⟨_, rfl, (Below.refl _ _).alloc (Nat.le_refl _) _, by simp, heap_new _ _ rfl⟩
 have H1 := Lib.hid hB1
 have HB := Lib.hid hB
 clear hB hB1
 go_enter Tryz.func45, Tryz.ntmps45
 go_wp2_with (go_at_call 75; refine (tagTab_ok _).mono ?_; rintro e w2 ⟨⟨B1, B2, B3, B4, B5, B6, B7, B8, B9, B10, B11, B12, B13, B14, B15, B16, rfl⟩, hb2⟩; have hB2 := heap_below hb2 H1.out; obtain ⟨q1, g1⟩ := blk hB2; have hix : ∀ X, Sem.run Tryz.prog (Instr.index 115 (.agg (tagV B1 B2 B3 B4 B5 B6 B7 B8 B9 B10 B11 B12 B13 B14 B15 B16)) (.int .i64 12)) X = .ok (.agg #[.slice (some ⟨B12, 0, none⟩) 2 2, .int .i64 4]) X := fun X => by kernel_rfl)
 refine bodyPost_ret (results_tagrow rfl _ _ w.heap.size (.slice (some ⟨B12, 0, none⟩) 2 2) (.int .i64 4) rfl (by simp [heap_set, putIn, hB2])) rfl ?_
 refine ⟨⟨_, rfl⟩, ?_⟩
 exact (((HB.out.trans (hb2.mono (by omega))).setCell (Nat.le_refl _) _).setCell (Nat.le_refl _) _)
theorem tagsOf_13 (w : World) : Calls Tryz.prog 45 #[.int .i64 13] w (OfSaid 4 w) := by
 obtain ⟨W1, hW1, hB, hz, hB1⟩ : ∃ W1, w.alloc (.cells #[.slice none 0 0, .int .i64 0] 85) = W1 ∧ Below w.heap.size w W1 ∧ w.heap.size + 1 = W1.heap.size ∧ W1.heap[w.heap.size]? = some (.cells #[.slice none 0 0, .int .i64 0] 85) :=
  ⟨_, rfl, (Below.refl _ _).alloc (Nat.le_refl _) _, by simp, heap_new _ _ rfl⟩
 have H1 := Lib.hid hB1
 have HB := Lib.hid hB
 clear hB hB1
 go_enter Tryz.func45, Tryz.ntmps45
 go_wp2_with (go_at_call 75; refine (tagTab_ok _).mono ?_; rintro e w2 ⟨⟨B1, B2, B3, B4, B5, B6, B7, B8, B9, B10, B11, B12, B13, B14, B15, B16, rfl⟩, hb2⟩; have hB2 := heap_below hb2 H1.out; obtain ⟨q1, g1⟩ := blk hB2; have hix : ∀ X, Sem.run Tryz.prog (Instr.index 115 (.agg (tagV B1 B2 B3 B4 B5 B6 B7 B8 B9 B10 B11 B12 B13 B14 B15 B16)) (.int .i64 13)) X = .ok (.agg #[.slice (some ⟨B13, 0, none⟩) 2 2, .int .i64 4]) X := fun X => by kernel_rfl)
 refine bodyPost_ret (results_tagrow rfl _ _ w.heap.size (.slice (some ⟨B13, 0, none⟩) 2 2) (.int .i64 4) rfl (by simp [heap_set, putIn, hB2])) rfl ?_
 refine ⟨⟨_, rfl⟩, ?_⟩
 exact (((HB.out.trans (hb2.mono (by omega))).setCell (Nat.le_refl _) _).setCell (Nat.le_refl _) _)
theorem tagsOf_14 (w : World) : Calls Tryz.prog 45 #[.int .i64 14] w (OfSaid 4 w) := by
 obtain ⟨W1, hW1, hB, hz, hB1⟩ : ∃ W1, w.alloc (.cells #[.slice none 0 0, .int .i64 0] 85) = W1 ∧ Below w.heap.size w W1 ∧ w.heap.size + 1 = W1.heap.size ∧ W1.heap[w.heap.size]? = some (.cells #[.slice none 0 0, .int .i64 0] 85) :=
  ⟨_, rfl, (Below.refl _ _).alloc (Nat.le_refl _) _, by simp, heap_new _ _ rfl⟩
 have H1 := Lib.hid hB1
 have HB := Lib.hid hB
 clear hB hB1
 go_enter Tryz.func45, Tryz.ntmps45
 go_wp2_with (go_at_call 75; refine (tagTab_ok _).mono ?_; rintro e w2 ⟨⟨B1, B2, B3, B4, B5, B6, B7, B8, B9, B10, B11, B12, B13, B14, B15, B16, rfl⟩, hb2⟩; have hB2 := heap_below hb2 H1.out; obtain ⟨q1, g1⟩ := blk hB2; have hix : ∀ X, Sem.run Tryz.prog (Instr.index 115 (.agg (tagV B1 B2 B3 B4 B5 B6 B7 B8 B9 B10 B11 B12 B13 B14 B15 B16)) (.int .i64 14)) X = .ok (.agg #[.slice (some ⟨B14, 0, none⟩) 3 3, .int .i64 4]) X := fun X => by kernel_rfl)
 refine bodyPost_ret (results_tagrow rfl _ _ w.heap.size (.slice (some ⟨B14, 0, none⟩) 3 3) (.int .i64 4) rfl (by simp [heap_set, putIn, hB2])) rfl ?_
 refine ⟨⟨_, rfl⟩, ?_⟩
 exact (((HB.out.trans (hb2.mono (by omega))).setCell (Nat.le_refl _) _).setCell (Nat.le_refl _) _)
theorem tagsOf_15 (w : World) : Calls Tryz.prog 45 #[.int .i64 15] w (OfSaid 4 w) := by
 obtain ⟨W1, hW1, hB, hz, hB1⟩ : ∃ W1, w.alloc (.cells #[.slice none 0 0, .int .i64 0] 85) = W1 ∧ Below w.heap.size w W1 ∧ w.heap.size + 1 = W1.heap.size ∧ W1.heap[w.heap.size]? = some (.cells #[.slice none 0 0, .int .i64 0] 85) :=
  ⟨_, rfl, (Below.refl _ _).alloc (Nat.le_refl _) _, by simp, heap_new _ _ rfl⟩
 have H1 := Lib.hid hB1
 have HB := Lib.hid hB
 clear hB hB1
 go_enter Tryz.func45, Tryz.ntmps45
 go_wp2_with (go_at_call 75; refine (tagTab_ok _).mono ?_; rintro e w2 ⟨⟨B1, B2, B3, B4, B5, B6, B7, B8, B9, B10, B11, B12, B13, B14, B15, B16, rfl⟩, hb2⟩; have hB2 := heap_below hb2 H1.out; obtain ⟨q1, g1⟩ := blk hB2; have hix : ∀ X, Sem.run Tryz.prog (Instr.index 115 (.agg (tagV B1 B2 B3 B4 B5 B6 B7 B8 B9 B10 B11 B12 B13 B14 B15 B16)) (.int .i64 15)) X = .ok (.agg #[.slice (some ⟨B15, 0, none⟩) 1 1, .int .i64 4]) X := fun X => by kernel_rfl)
 refine bodyPost_ret (results_tagrow rfl _ _ w.heap.size (.slice (some ⟨B15, 0, none⟩) 1 1) (.int .i64 4) rfl (by simp [heap_set, putIn, hB2])) rfl ?_
 refine ⟨⟨_, rfl⟩, ?_⟩
 exact (((HB.out.trans (hb2.mono (by omega))).setCell (Nat.le_refl _) _).setCell (Nat.le_refl _) _)
theorem tagsOf_16 (w : World) : Calls Tryz.prog 45 #[.int .i64 16] w (OfSaid 5 w) := by
 obtain ⟨W1, hW1, hB, hz, hB1⟩ : ∃ W1, w.alloc (.cells #[.slice none 0 0, .int .i64 0] 85) = W1 ∧ Below w.heap.size w W1 ∧ w.heap.size + 1 = W1.heap.size ∧ W1.heap[w.heap.size]? = some (.cells #[.slice none 0 0, .int .i64 0] 85) :=
  ⟨_, rfl, (Below.refl _ _).alloc (Nat.le_refl _) _, by simp, heap_new _ _ rfl⟩
 have H1 := Lib.hid hB1
 have HB := Lib.hid hB
 clear hB hB1
 go_enter Tryz.func45, Tryz.ntmps45
 go_wp2_with (go_at_call 75; refine (tagTab_ok _).mono ?_; rintro e w2 ⟨⟨B1, B2, B3, B4, B5, B6, B7, B8, B9, B10, B11, B12, B13, B14, B15, B16, rfl⟩, hb2⟩; have hB2 := heap_below hb2 H1.out; obtain ⟨q1, g1⟩ := blk hB2; have hix : ∀ X, Sem.run Tryz.prog (Instr.index 115 (.agg (tagV B1 B2 B3 B4 B5 B6 B7 B8 B9 B10 B11 B12 B13 B14 B15 B16)) (.int .i64 16)) X = .ok (.agg #[.slice (some ⟨B16, 0, none⟩) 1 1, .int .i64 5]) X := fun X => by kernel_rfl)
 refine bodyPost_ret (results_tagrow rfl _ _ w.heap.size (.slice (some ⟨B16, 0, none⟩) 1 1) (.int .i64 5) rfl (by simp [heap_set, putIn, hB2])) rfl ?_
 refine ⟨⟨_, rfl⟩, ?_⟩
 exact (((HB.out.trans (hb2.mono (by omega))).setCell (Nat.le_refl _) _).setCell (Nat.le_refl _) _)
theorem tagsOf_out (t : Int) (ht : t < 0 ∨ 16 < t) (w : World) : Calls Tryz.prog 45 #[.int .i64 t] w (OfSaid 0 w) := by
 obtain ⟨W1, hW1, hB, hz, hB1⟩ : ∃ W1, w.alloc (.cells #[.slice none 0 0, .int .i64 0] 85) = W1 ∧ Below w.heap.size w W1 ∧ w.heap.size + 1 = W1.heap.size ∧ W1.heap[w.heap.size]? = some (.cells #[.slice none 0 0, .int .i64 0] 85) :=
  ⟨_, rfl, (Below.refl _ _).alloc (Nat.le_refl _) _, by simp, heap_new _ _ rfl⟩
 have H1 := Lib.hid hB1
 have HB := Lib.hid hB
 obtain ⟨p1, f1⟩ := blk hB1
 clear hB
 rcases ht with ht | ht
 ·have hd1 : decide (t < 0) = true := decide_eq_true ht
  go_enter Tryz.func45, Tryz.ntmps45
  go_wp2_with fail
  refine bodyPost_ret (results_tagrow rfl _ _ w.heap.size (.slice none 0 0) (.int .i64 0) rfl (by simp [heap_set, putIn, hB1])) rfl ?_
  refine ⟨⟨_, rfl⟩, ?_⟩
  exact ((HB.out.setCell (Nat.le_refl _) _).setCell (Nat.le_refl _) _)
 ·have hd1 : decide (t < 0) = false := decide_eq_false (by omega)
  have hd2 : decide (16 < t) = true := decide_eq_true ht
  go_enter Tryz.func45, Tryz.ntmps45
  go_wp2_with fail
  refine bodyPost_ret (results_tagrow rfl _ _ w.heap.size (.slice none 0 0) (.int .i64 0) rfl (by simp [heap_set, putIn, hB1])) rfl ?_
  refine ⟨⟨_, rfl⟩, ?_⟩
  exact ((HB.out.setCell (Nat.le_refl _) _).setCell (Nat.le_refl _) _)
theorem tagsOf_any (t : Int) (w : World) : Calls Tryz.prog 45 #[.int .i64 t] w (OfSaid (tagC t) w) := by
 by_cases ht : t < 0 ∨ 16 < t
 ·rw [show tagC t = 0 by unfold tagC; rw [if_pos ht]]
  exact tagsOf_out t ht w
 ·have h : t = 0 ∨ t = 1 ∨ t = 2 ∨ t = 3 ∨ t = 4 ∨ t = 5 ∨ t = 6 ∨ t = 7 ∨ t = 8 ∨ t = 9 ∨ t = 10 ∨ t = 11 ∨ t = 12 ∨ t = 13 ∨ t = 14 ∨ t = 15 ∨ t = 16 := by omega
  rcases h with rfl | rfl | rfl | rfl | rfl | rfl | rfl | rfl | rfl | rfl | rfl | rfl | rfl | rfl | rfl | rfl | rfl
  ·exact tagsOf_0 w
  ·exact tagsOf_1 w
  ·exact tagsOf_2 w
  ·exact tagsOf_3 w
  ·exact tagsOf_4 w
  ·exact tagsOf_5 w
  ·exact tagsOf_6 w
  ·exact tagsOf_7 w
  ·exact tagsOf_8 w
  ·exact tagsOf_9 w
  ·exact tagsOf_10 w
  ·exact tagsOf_11 w
  ·exact tagsOf_12 w
  ·exact tagsOf_13 w
  ·exact tagsOf_14 w
  ·exact tagsOf_15 w
  ·exact tagsOf_16 w
theorem tagsClass_any (t : Int) (w : World) : Calls Tryz.prog 17 #[.int .i64 t] w fun e w' => e = .returned (.int .i64 (tagC t)) ∧ Below w.heap.size w w' := by
 have HC := Lib.hid (tagsOf_any t w)
 generalize tagC t = c at *
 go_enter Tryz.func17, Tryz.ntmps17
 go_wp2_with (go_at_call 45; refine HC.out.mono ?_; rintro e w1 ⟨⟨s, rfl⟩, hb1⟩; have hfld : ∀ X, Sem.run Tryz.prog (Instr.field 85 (.agg #[s, .int .i64 c]) 1) X = .ok (.int .i64 c) X := fun X => by kernel_rfl)
 go_ret
 exact ⟨by first | rfl | simp, hb1⟩
end Go.Proofs.YtjpgffihafknlaaGreatDoor
