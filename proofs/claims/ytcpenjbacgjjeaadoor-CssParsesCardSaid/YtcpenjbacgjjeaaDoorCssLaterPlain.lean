/- Two styles, parted by ';': the plain laws. Bits as vectors of 64. -/
import Derived.Test.YtcpenjbacgjjeaaDoorCssPlain
namespace Go.Proofs.Qw

/-- A vector of bits as a number of Go's int. -/
def en (v : BitVec 64) : Int := IntKind.i64.wrap (v.toNat : Int)
theorem of_en (v : BitVec 64) : BitVec.ofInt 64 (en v) = v := by
  apply BitVec.eq_of_toNat_eq
  have := v.isLt
  unfold en
  rw [IntKind.wrap_i64, BitVec.toNat_ofInt]
  omega
theorem en_or (u v : BitVec 64) : bits .or .i64 (en u) (en v) = en (u ||| v) := by
  show IntKind.i64.wrap (((BitVec.ofInt 64 (en u) ||| BitVec.ofInt 64 (en v)).toNat : Nat) : Int) = _
  rw [of_en, of_en]; rfl
theorem en_and (u v : BitVec 64) : bits .and .i64 (en u) (en v) = en (u &&& v) := by
  show IntKind.i64.wrap (((BitVec.ofInt 64 (en u) &&& BitVec.ofInt 64 (en v)).toNat : Nat) : Int) = _
  rw [of_en, of_en]; rfl
theorem en_andNot (u v : BitVec 64) : bits .andNot .i64 (en u) (en v) = en (u &&& ~~~v) := by
  show IntKind.i64.wrap (((BitVec.ofInt 64 (en u) &&& ~~~BitVec.ofInt 64 (en v)).toNat : Nat) : Int) = _
  rw [of_en, of_en]; rfl
theorem en_of {x : Int} (h1 : -9223372036854775808 ≤ x) (h2 : x ≤ 9223372036854775807) : en (BitVec.ofInt 64 x) = x := by
  unfold en
  rw [IntKind.wrap_i64, BitVec.toNat_ofInt]
  omega
theorem en0 : (0 : Int) = en 0#64 := by decide +kernel
theorem en1 : (1 : Int) = en 1#64 := by decide +kernel
theorem en2 : (2 : Int) = en 2#64 := by decide +kernel
theorem en4 : (4 : Int) = en 4#64 := by decide +kernel
theorem en8 : (8 : Int) = en 8#64 := by decide +kernel
theorem en12 : (12 : Int) = en 12#64 := by decide +kernel
theorem en15 : (15 : Int) = en 15#64 := by decide +kernel

abbrev St := BitVec 64 × BitVec 64
def enS (p : St) : Int × Int := (en p.1, en p.2)
/-- What is said later goes ahead. -/
def ov (p q : St) : St := (p.1 &&& ~~~q.2 ||| q.1, p.2 &&& ~~~q.1 ||| q.2)
theorem ov_assoc (p q r : St) : ov (ov p q) r = ov p (ov q r) := by
  unfold ov
  ext i hi <;> simp <;> cases p.1[i] <;> cases p.2[i] <;> cases q.1[i] <;> cases q.2[i] <;> cases r.1[i] <;> cases r.2[i] <;> rfl
theorem ov_zero (p : St) : ov p (0#64, 0#64) = p := by
  unfold ov
  apply Prod.ext <;> apply BitVec.eq_of_getElem_eq <;> intro i hi <;> simp only [BitVec.getElem_or, BitVec.getElem_and, BitVec.getElem_not, BitVec.getElem_zero]
  · cases p.1[i] <;> rfl
  · cases p.2[i] <;> rfl
theorem zero_ov (p : St) : ov (0#64, 0#64) p = p := by
  unfold ov
  apply Prod.ext <;> apply BitVec.eq_of_getElem_eq <;> intro i hi <;> simp only [BitVec.getElem_or, BitVec.getElem_and, BitVec.getElem_not, BitVec.getElem_zero]
  · cases p.1[i] <;> cases p.2[i] <;> rfl
  · cases p.1[i] <;> cases p.2[i] <;> rfl
theorem enS_say (p : St) (on off : BitVec 64) : cssSay (enS p) (en on) (en off) = enS (ov p (on, off)) := by
  unfold cssSay enS ov
  simp only [en_andNot, en_or]

def wordsBGo (b : BitVec 64) (s : Bool) : List (List UInt8) → BitVec 64 × Bool
  | [] => (b, s)
  | w :: r => if w = underline then wordsBGo (b ||| 4#64) true r
    else if w = through then wordsBGo (b ||| 8#64) true r
    else if w = [] then wordsBGo b s r else (0#64, false)
theorem wordsBGo_eq : ∀ (r : List (List UInt8)) (b : BitVec 64) (s : Bool), wordsGo (en b) s r = (en (wordsBGo b s r).1, (wordsBGo b s r).2)
  | [], b, s => rfl
  | w :: r, b, s => by
    unfold wordsGo wordsBGo
    rw [en4, en_or, en8, en_or]
    split
    · exact wordsBGo_eq r _ _
    · split
      · exact wordsBGo_eq r _ _
      · split
        · exact wordsBGo_eq r _ _
        · exact congrArg (·, false) en0
/-- No bit besides these two. -/
def sub (v m : BitVec 64) : Prop := v &&& ~~~m = 0#64
theorem wordsBGo_sub : ∀ (r : List (List UInt8)) (b : BitVec 64) (s : Bool), sub b 12#64 → sub (wordsBGo b s r).1 12#64
  | [], b, s, h => h
  | w :: r, b, s, h => by
    unfold wordsBGo
    have h4 : sub (b ||| 4#64) 12#64 := by
      unfold sub at h ⊢
      rw [BitVec.and_or_distrib_right, h]; decide
    have h8 : sub (b ||| 8#64) 12#64 := by
      unfold sub at h ⊢
      rw [BitVec.and_or_distrib_right, h]; decide
    split
    · exact wordsBGo_sub r _ _ h4
    · split
      · exact wordsBGo_sub r _ _ h8
      · split
        · exact wordsBGo_sub r _ _ h
        · show sub 0#64 12#64
          unfold sub; decide
/-- What a declaration says. -/
def saysB (x : List UInt8 × List UInt8) : St :=
  if x.1 ++ 58 :: x.2 = fontWeight ++ 58 :: bold then (1#64, 0#64) else
  if x.1 ++ 58 :: x.2 = fontWeight ++ 58 :: w700 then (1#64, 0#64) else
  if x.1 ++ 58 :: x.2 = fontWeight ++ 58 :: normal then (0#64, 1#64) else
  if x.1 ++ 58 :: x.2 = fontWeight ++ 58 :: w400 then (0#64, 1#64) else
  if x.1 ++ 58 :: x.2 = fontStyle ++ 58 :: italic then (2#64, 0#64) else
  if x.1 ++ 58 :: x.2 = fontStyle ++ 58 :: normal then (0#64, 2#64) else
  if x.1 ++ 58 :: x.2 = textDeco ++ 58 :: none_ then (0#64, 12#64) else
  if (wordsBGo 0#64 false (splitL 32 x.2)).2 = true then (if x.1 = textDeco then ((wordsBGo 0#64 false (splitL 32 x.2)).1, 12#64 &&& ~~~(wordsBGo 0#64 false (splitL 32 x.2)).1) else (0#64, 0#64)) else (0#64, 0#64)
theorem ite_enS {p a' b' : St} {c : Prop} [Decidable c] {a b : Int × Int} (h1 : a = enS (ov p a')) (h2 : b = enS (ov p b')) : (if c then a else b) = enS (ov p (if c then a' else b')) := by split <;> assumption
theorem step_says (p : St) (x : List UInt8 × List UInt8) : cssStep (enS p) x = enS (ov p (saysB x)) := by
  have hw : words x.2 = (en (wordsBGo 0#64 false (splitL 32 x.2)).1, (wordsBGo 0#64 false (splitL 32 x.2)).2) := by
    unfold words
    rw [en0]; exact wordsBGo_eq _ _ _
  unfold cssStep cssStepT saysB
  rw [hw]
  simp only [fontWeight, fontStyle, textDeco, bold, w700, normal, w400, italic, none_, List.cons_append, List.nil_append]
  rw [en0, en1, en2, en12, en_andNot]
  exact ite_enS (enS_say _ _ _) (ite_enS (enS_say _ _ _) (ite_enS (enS_say _ _ _) (ite_enS (enS_say _ _ _) (ite_enS (enS_say _ _ _) (ite_enS (enS_say _ _ _) (ite_enS (enS_say _ _ _) (ite_enS (ite_enS (enS_say _ _ _) (congrArg enS (ov_zero p).symm)) (congrArg enS (ov_zero p).symm))))))))
/-- Disjoint, and of the four bits alone. -/
def fine (p : St) : Prop := p.1 &&& p.2 = 0#64 ∧ (p.1 ||| p.2) &&& ~~~15#64 = 0#64
theorem fine_bits {p : St} (h : fine p) (i : Nat) (hi : i < 64) : (p.1[i] && p.2[i]) = false ∧ ((p.1[i] || p.2[i]) && !(15#64)[i]) = false := by
  have h1 := congrArg (fun v => v[i]) h.1
  have h2 := congrArg (fun v => v[i]) h.2
  simp only [BitVec.getElem_and, BitVec.getElem_or, BitVec.getElem_not, BitVec.getElem_zero] at h1 h2
  exact ⟨h1, h2⟩
theorem fine_of {p : St} (h : ∀ (i : Nat) (hi : i < 64), (p.1[i] && p.2[i]) = false ∧ ((p.1[i] || p.2[i]) && !(15#64)[i]) = false) : fine p := by
  constructor <;> apply BitVec.eq_of_getElem_eq <;> intro i hi
  · simpa using (h i hi).1
  · have := (h i hi).2
    simp only [BitVec.getElem_and, BitVec.getElem_or, BitVec.getElem_not, BitVec.getElem_zero]
    exact this
theorem fine_ov {p q : St} (hp : fine p) (hq : fine q) : fine (ov p q) := by
  refine fine_of fun i hi => ?_
  have h1 := fine_bits hp i hi
  have h2 := fine_bits hq i hi
  unfold ov
  simp only [BitVec.getElem_and, BitVec.getElem_or, BitVec.getElem_not]
  revert h1 h2
  cases p.1[i] <;> cases p.2[i] <;> cases q.1[i] <;> cases q.2[i] <;> cases (15#64)[i] <;> decide
theorem fine_says (x : List UInt8 × List UInt8) : fine (saysB x) := by
  have hs := wordsBGo_sub (splitL 32 x.2) 0#64 false (by unfold sub; decide)
  have h0 : fine (0#64, 0#64) := by unfold fine; decide
  have h1 : fine (1#64, 0#64) := by unfold fine; decide
  have h2 : fine (0#64, 1#64) := by unfold fine; decide
  have h3 : fine (2#64, 0#64) := by unfold fine; decide
  have h4 : fine (0#64, 2#64) := by unfold fine; decide
  have h5 : fine (0#64, 12#64) := by unfold fine; decide
  have h6 : ∀ v : BitVec 64, sub v 12#64 → fine (v, 12#64 &&& ~~~v) := fun v hv => by
    refine fine_of fun i hi => ?_
    have := congrArg (fun v => v[i]) hv
    have h12 : ((12#64)[i] && !(15#64)[i]) = false := by
      have : 12#64 &&& ~~~15#64 = 0#64 := by decide
      have := congrArg (fun v => v[i]) this
      simpa only [BitVec.getElem_and, BitVec.getElem_not, BitVec.getElem_zero] using this
    simp only [BitVec.getElem_and, BitVec.getElem_not, BitVec.getElem_zero] at this ⊢
    revert this h12
    cases v[i] <;> cases (12#64)[i] <;> cases (15#64)[i] <;> decide
  unfold saysB
  split
  · exact h1
  · split
    · exact h1
    · split
      · exact h2
      · split
        · exact h2
        · split
          · exact h3
          · split
            · exact h4
            · split
              · exact h5
              · split
                · split
                  · exact h6 _ hs
                  · exact h0
                · exact h0
def foldB (p : St) (l : List (List UInt8 × List UInt8)) : St := l.foldl (fun p x => ov p (saysB x)) p
theorem foldB_eq : ∀ (l : List (List UInt8 × List UInt8)) (p : St), l.foldl cssStep (enS p) = enS (foldB p l)
  | [], p => rfl
  | x :: l, p => by
    rw [List.foldl_cons, step_says, foldB_eq l]; rfl
theorem foldB_ov : ∀ (l : List (List UInt8 × List UInt8)) (p : St), foldB p l = ov p (foldB (0#64, 0#64) l)
  | [], p => (ov_zero p).symm
  | x :: l, p => by
    show foldB (ov p (saysB x)) l = ov p (foldB (ov (0#64, 0#64) (saysB x)) l)
    rw [foldB_ov l (ov p (saysB x)), foldB_ov l (ov (0#64, 0#64) (saysB x)), zero_ov, ov_assoc]
theorem foldB_fine : ∀ (l : List (List UInt8 × List UInt8)) (p : St), fine p → fine (foldB p l)
  | [], _, h => h
  | x :: l, _, h => foldB_fine l _ (fine_ov h (fine_says x))
def parseB (l : List UInt8) : St := foldB (0#64, 0#64) (decls l)
theorem parse_eq (l : List UInt8) : cssParse l = enS (parseB l) := by
  unfold cssParse parseB
  rw [show ((0, 0) : Int × Int) = enS (0#64, 0#64) from Prod.ext en0 en0]
  exact foldB_eq _ _
theorem parse_fine (l : List UInt8) : fine (parseB l) := foldB_fine _ _ (by unfold fine; decide)

theorem splitL_app (c : UInt8) (t : List UInt8) : ∀ s : List UInt8, splitL c (s ++ c :: t) = splitL c s ++ splitL c t
  | [] => by simp [splitL]
  | b :: s => by
    have ih := splitL_app c t s
    rw [List.cons_append, splitL, splitL]
    split
    · rw [ih]; rfl
    · have hn := splitL_ne c s
      rw [ih]
      match h : splitL c s with
      | [] => exact absurd h hn
      | y :: r => rfl
theorem decls_app (s t : List UInt8) : decls (s ++ 59 :: t) = decls s ++ decls t := by
  unfold decls
  rw [splitL_app, List.filterMap_append]
theorem parse_two (s t : List UInt8) : parseB (s ++ 59 :: t) = ov (parseB s) (parseB t) := by
  unfold parseB
  rw [decls_app, ← foldB_ov]
  exact List.foldl_append

/-- A text cut at its first ':'. -/
def cutL : List UInt8 → List UInt8 × List UInt8 × Bool
  | [] => ([], [], false)
  | b :: l => if b = 58 then ([], l, true) else (b :: (cutL l).1, (cutL l).2.1, (cutL l).2.2)
theorem cut_eq : ∀ d : List UInt8, Lib.cut d [58] = cutL d
  | [] => by decide
  | b :: l => by
    have ih := cut_eq l
    have hge := Lib.indexByte_ge l 58
    rw [← Lib.index_one] at hge
    unfold Lib.cut at ih ⊢
    rw [index_one_cons, cutL]
    by_cases hb : b = 58
    · subst hb; simp
    · rw [if_neg hb, if_neg hb, ← ih]
      by_cases h1 : Lib.index l [58] = -1
      · simp [h1]
      · rw [if_neg h1, if_pos (by omega), if_pos (by omega)]
        have e1 : (Lib.index l [58] + 1).toNat = (Lib.index l [58]).toNat + 1 := by omega
        simp [e1]
theorem cutL_snoc (d : List UInt8) : cutL (d ++ [32]) = if (cutL d).2.2 = true then ((cutL d).1, (cutL d).2.1 ++ [32], true) else ((cutL d).1 ++ [32], (cutL d).2.1, false) := by
  induction d with
  | nil => decide
  | cons b l ih =>
    rw [List.cons_append, cutL, cutL]
    by_cases hb : b = 58
    · simp [hb]
    · rw [if_neg hb, if_neg hb, ih]
      split <;> rfl
theorem trimB_snoc (l : List UInt8) (c : UInt8) : Lib.trimB (l ++ [c]) c = Lib.trimB l c := by
  unfold Lib.trimB Lib.trimRightB
  rw [List.reverse_append, List.reverse_singleton, List.singleton_append, List.dropWhile_cons_of_pos (by simp)]
theorem trimB_cons (l : List UInt8) (c : UInt8) : Lib.trimB (c :: l) c = Lib.trimB l c := by
  unfold Lib.trimB Lib.trimRightB Lib.trimLeftB
  rw [List.reverse_cons, List.dropWhile_append]
  split
  · rename_i h
    rw [List.isEmpty_iff.1 h, List.dropWhile_cons_of_pos (by simp)]
    rfl
  · rw [List.reverse_append, List.reverse_singleton, List.singleton_append, List.dropWhile_cons_of_pos (by simp)]
theorem declOf_cons (d : List UInt8) : declOf (32 :: d) = declOf d := by
  unfold declOf
  have e : cutL (32 :: d) = (32 :: (cutL d).1, (cutL d).2.1, (cutL d).2.2) := by rw [cutL, if_neg (by decide)]
  rw [cut_eq, cut_eq, e]
  dsimp only
  rw [trimB_cons]
theorem declOf_snoc (d : List UInt8) : declOf (d ++ [32]) = declOf d := by
  unfold declOf
  rw [cut_eq, cut_eq, cutL_snoc]
  by_cases h : (cutL d).2.2 = true
  · rw [if_pos h, if_pos h]
    dsimp only
    rw [trimB_snoc, if_pos rfl]
  · rw [if_neg h, if_neg h]
    rfl
theorem decls_cons (s : List UInt8) : decls (32 :: s) = decls s := by
  unfold decls
  rw [splitL, if_neg (by decide)]
  have hn := splitL_ne 59 s
  match h : splitL 59 s with
  | [] => exact absurd h hn
  | y :: r =>
    show (((32 :: y) :: r).filterMap declOf) = _
    rw [List.filterMap_cons, List.filterMap_cons, declOf_cons]
theorem splitL_snoc (c b : UInt8) (hb : b ≠ c) : ∀ s : List UInt8, ∃ l x, splitL c s = l ++ [x] ∧ splitL c (s ++ [b]) = l ++ [x ++ [b]]
  | [] => ⟨[], [], rfl, by simp [splitL, hb]⟩
  | a :: s => by
    obtain ⟨l, x, h1, h2⟩ := splitL_snoc c b hb s
    rw [List.cons_append, splitL, splitL]
    by_cases ha : a = c
    · rw [if_pos ha, if_pos ha, h1, h2]
      exact ⟨[] :: l, x, rfl, rfl⟩
    · rw [if_neg ha, if_neg ha, h1, h2]
      cases l with
      | nil => exact ⟨[], a :: x, rfl, rfl⟩
      | cons y r => exact ⟨(a :: y) :: r, x, rfl, rfl⟩
theorem decls_snoc (s : List UInt8) : decls (s ++ [32]) = decls s := by
  obtain ⟨l, x, h1, h2⟩ := splitL_snoc 59 32 (by decide) s
  unfold decls
  rw [h1, h2, List.filterMap_append, List.filterMap_append]
  congr 1
  rw [List.filterMap_cons, List.filterMap_cons, declOf_snoc]
/-- Blanks around, and what says nothing, change nothing. -/
theorem parse_around (s : List UInt8) : parseB ([32, 59, 120, 59, 58, 32, 59, 32] ++ s ++ [32, 59, 32, 99, 111, 108, 111, 114, 58, 32, 114, 101, 100, 59]) = parseB s := by
  have e : [32, 59, 120, 59, 58, 32, 59, 32] ++ s ++ [32, 59, 32, 99, 111, 108, 111, 114, 58, 32, 114, 101, 100, 59] = [32] ++ 59 :: ([120] ++ 59 :: ([58, 32] ++ 59 :: ((32 :: s ++ [32]) ++ 59 :: ([32, 99, 111, 108, 111, 114, 58, 32, 114, 101, 100] ++ 59 :: [])))) := by simp
  rw [e, parse_two, parse_two, parse_two, parse_two, parse_two]
  rw [show parseB [32] = (0#64, 0#64) by decide +kernel, show parseB [120] = (0#64, 0#64) by decide +kernel, show parseB [58, 32] = (0#64, 0#64) by decide +kernel, show parseB [32, 99, 111, 108, 111, 114, 58, 32, 114, 101, 100] = (0#64, 0#64) by decide +kernel, show parseB [] = (0#64, 0#64) by decide +kernel]
  rw [zero_ov, zero_ov, zero_ov, ov_zero, ov_zero]
  unfold parseB
  rw [decls_snoc, decls_cons]

/-- What CssLater asks of the two styles' bits. -/
theorem later_bits (s t : List UInt8) :
    (cssParse (s ++ 59 :: t)).1 = bits .or .i64 (bits .andNot .i64 (cssParse s).1 (cssParse t).2) (cssParse t).1 ∧
    (cssParse (s ++ 59 :: t)).2 = bits .or .i64 (bits .andNot .i64 (cssParse s).2 (cssParse t).1) (cssParse t).2 ∧
    bits .and .i64 (cssParse (s ++ 59 :: t)).1 (cssParse (s ++ 59 :: t)).2 = 0 ∧
    bits .andNot .i64 (bits .or .i64 (cssParse (s ++ 59 :: t)).1 (cssParse (s ++ 59 :: t)).2) 15 = 0 := by
  have hf := parse_fine (s ++ 59 :: t)
  simp only [parse_eq, enS, parse_two, ov, en_or, en_andNot, en_and] at hf ⊢
  refine ⟨trivial, trivial, ?_, ?_⟩
  · exact (congrArg en hf.1).trans en0.symm
  · rw [en15, en_andNot]
    exact (congrArg en hf.2).trans en0.symm
/-- What CssOver asks. -/
theorem over_bits (s t : List UInt8) (b : Int) (h1 : -9223372036854775808 ≤ b) (h2 : b ≤ 9223372036854775807) :
    bits .or .i64 (bits .andNot .i64 b (cssParse (s ++ 59 :: t)).2) (cssParse (s ++ 59 :: t)).1 =
      bits .or .i64 (bits .andNot .i64 (bits .or .i64 (bits .andNot .i64 b (cssParse s).2) (cssParse s).1) (cssParse t).2) (cssParse t).1 ∧
    bits .andNot .i64 (bits .or .i64 (bits .andNot .i64 b (cssParse (s ++ 59 :: t)).2) (cssParse (s ++ 59 :: t)).1) (bits .or .i64 (bits .or .i64 (bits .or .i64 (cssParse s).1 (cssParse s).2) (cssParse t).1) (cssParse t).2) =
      bits .andNot .i64 b (bits .or .i64 (bits .or .i64 (bits .or .i64 (cssParse s).1 (cssParse s).2) (cssParse t).1) (cssParse t).2) := by
  rw [← en_of h1 h2]
  generalize BitVec.ofInt 64 b = v
  simp only [parse_eq, enS, parse_two, ov, en_or, en_andNot]
  generalize parseB s = p
  generalize parseB t = q
  constructor <;> apply congrArg en <;> apply BitVec.eq_of_getElem_eq <;> intro i hi <;> simp only [BitVec.getElem_or, BitVec.getElem_and, BitVec.getElem_not] <;> cases v[i] <;> cases p.1[i] <;> cases p.2[i] <;> cases q.1[i] <;> cases q.2[i] <;> rfl
end Go.Proofs.Qw
