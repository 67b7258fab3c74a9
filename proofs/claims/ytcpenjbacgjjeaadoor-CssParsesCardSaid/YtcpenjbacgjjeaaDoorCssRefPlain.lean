/- The document's answer of css.Print as a plain function, and that it is css.Print's. -/
import Derived.Test.YtcpenjbacgjjeaaDoorCssLaterPlain
import Derived.Test.YtcpenjbacgjjeaaDoorCssBackPlain
namespace Go.Proofs.Qw
def refJoin (a b : List UInt8) : List UInt8 := if a = [] ∨ b = [] then a ++ b else a ++ 59 :: 32 :: b
def refS (x y : Int) : List UInt8 := if (bits .and .i64 x 1 == 1) = true then [102, 111, 110, 116, 45, 119, 101, 105, 103, 104, 116, 58, 32, 98, 111, 108, 100] else if (bits .and .i64 y 1 == 1) = true then [102, 111, 110, 116, 45, 119, 101, 105, 103, 104, 116, 58, 32, 110, 111, 114, 109, 97, 108] else []
def refT (x y : Int) : List UInt8 := if (bits .and .i64 x 2 == 2) = true then [102, 111, 110, 116, 45, 115, 116, 121, 108, 101, 58, 32, 105, 116, 97, 108, 105, 99] else if (bits .and .i64 y 2 == 2) = true then [102, 111, 110, 116, 45, 115, 116, 121, 108, 101, 58, 32, 110, 111, 114, 109, 97, 108] else []
def refU (x y : Int) : List UInt8 := if (bits .and .i64 x 12 == 4) = true then [116, 101, 120, 116, 45, 100, 101, 99, 111, 114, 97, 116, 105, 111, 110, 58, 32, 117, 110, 100, 101, 114, 108, 105, 110, 101] else if (bits .and .i64 x 12 == 8) = true then [116, 101, 120, 116, 45, 100, 101, 99, 111, 114, 97, 116, 105, 111, 110, 58, 32, 108, 105, 110, 101, 45, 116, 104, 114, 111, 117, 103, 104] else if (bits .and .i64 x 12 == 12) = true then [116, 101, 120, 116, 45, 100, 101, 99, 111, 114, 97, 116, 105, 111, 110, 58, 32, 117, 110, 100, 101, 114, 108, 105, 110, 101, 32, 108, 105, 110, 101, 45, 116, 104, 114, 111, 117, 103, 104] else if (bits .and .i64 y 12 != 0) = true then [116, 101, 120, 116, 45, 100, 101, 99, 111, 114, 97, 116, 105, 111, 110, 58, 32, 110, 111, 110, 101] else []
def refPrint (x y : Int) : List UInt8 := refJoin (refJoin (refS x y) (refT x y)) (refU x y)
theorem and_low (x : Int) (m : BitVec 64) (h : 15#64 &&& m = m) : bits .and .i64 x (en m) = bits .and .i64 (bits .and .i64 x 15) (en m) := by
  have hx : ∀ z : Int, bits .and .i64 z (en m) = en (BitVec.ofInt 64 z &&& m) := fun z => by
    show IntKind.i64.wrap (((BitVec.ofInt 64 z &&& BitVec.ofInt 64 (en m)).toNat : Nat) : Int) = _
    rw [of_en]; rfl
  have h15 : bits .and .i64 x 15 = en (BitVec.ofInt 64 x &&& 15#64) := by
    rw [en15]
    show IntKind.i64.wrap (((BitVec.ofInt 64 x &&& BitVec.ofInt 64 (en 15#64)).toNat : Nat) : Int) = _
    rw [of_en]; rfl
  rw [hx, hx, h15, of_en, BitVec.and_assoc, h]
theorem low1 (x : Int) : bits .and .i64 x 1 = bits .and .i64 (bits .and .i64 x 15) 1 := by rw [en1]; exact and_low x _ (by decide)
theorem low2 (x : Int) : bits .and .i64 x 2 = bits .and .i64 (bits .and .i64 x 15) 2 := by rw [en2]; exact and_low x _ (by decide)
theorem low4' (x : Int) : bits .and .i64 x 4 = bits .and .i64 (bits .and .i64 x 15) 4 := by rw [en4]; exact and_low x _ (by decide)
theorem low8 (x : Int) : bits .and .i64 x 8 = bits .and .i64 (bits .and .i64 x 15) 8 := by rw [en8]; exact and_low x _ (by decide)
theorem low12 (x : Int) : bits .and .i64 x 12 = bits .and .i64 (bits .and .i64 x 15) 12 := by rw [en12]; exact and_low x _ (by decide)
theorem cssPrint_low (x y : Int) : cssPrint x y = cssPrint (bits .and .i64 x 15) (bits .and .i64 y 15) := by
  unfold cssPrint putF rowF
  rw [low1 x, low1 y, low2 x, low2 y, low4' x, low8 x, low12 x, low12 y]
theorem refPrint_low (x y : Int) : refPrint x y = refPrint (bits .and .i64 x 15) (bits .and .i64 y 15) := by
  unfold refPrint refS refT refU
  rw [low1 x, low1 y, low2 x, low2 y, low12 x, low12 y]
theorem print_all : (List.finRange 16).all (fun i => (List.finRange 16).all fun j => cssPrint (i.val : Int) (j.val : Int) == refPrint (i.val : Int) (j.val : Int)) = true := by decide +kernel
theorem print_eq (x y : Int) : cssPrint x y = refPrint x y := by
  rw [cssPrint_low, refPrint_low]
  obtain ⟨i, hi⟩ := low4 x
  obtain ⟨j, hj⟩ := low4 y
  rw [hi, hj]
  exact beq_iff_eq.1 (List.all_eq_true.1 (List.all_eq_true.1 print_all i (List.mem_finRange i)) j (List.mem_finRange j))

theorem splitL_len (c : UInt8) : ∀ l : List UInt8, (splitL c l).length ≤ l.length + 1
  | [] => by simp [splitL]
  | b :: l => by
    have ih := splitL_len c l
    unfold splitL
    split
    · simp; omega
    · simp; omega
/-- The words of text-decoration, by the document. -/
def refWords (b : Int) : List (List UInt8) → Option Int
  | [] => some b
  | w :: r => if w = underline then refWords (bits .or .i64 b 4) r else if w = through then refWords (bits .or .i64 b 8) r else if w = [] then refWords b r else none
theorem refWords1 {b : Int} {w : List UInt8} {r : List (List UInt8)} (h : w = underline) : refWords b (w :: r) = refWords (bits .or .i64 b 4) r := by rw [refWords, if_pos h]
theorem refWords2 {b : Int} {w : List UInt8} {r : List (List UInt8)} (h1 : w ≠ underline) (h : w = through) : refWords b (w :: r) = refWords (bits .or .i64 b 8) r := by rw [refWords, if_neg h1, if_pos h]
theorem refWords3 {b : Int} {w : List UInt8} {r : List (List UInt8)} (h1 : w ≠ underline) (h2 : w ≠ through) (h : w = []) : refWords b (w :: r) = refWords b r := by rw [refWords, if_neg h1, if_neg h2, if_pos h]
theorem refWords4 {b : Int} {w : List UInt8} {r : List (List UInt8)} (h1 : w ≠ underline) (h2 : w ≠ through) (h : w ≠ []) : refWords b (w :: r) = none := by rw [refWords, if_neg h1, if_neg h2, if_neg h]
def refDeco : Option Int → Int × Int × Bool
  | some b => (b, bits .andNot .i64 12 b, b != 0)
  | none => (0, 0, false)
/-- What a declaration says, by the document: on, off, whether it says anything. -/
def refSays (nm vl : List UInt8) : Int × Int × Bool :=
  if nm = fontWeight then (if vl = bold ∨ vl = w700 then (1, 0, true) else (0, 1, decide (vl = normal ∨ vl = w400)))
  else if nm = fontStyle then (if vl = italic then (2, 0, true) else (0, 2, decide (vl = normal)))
  else if nm = textDeco then (if vl = none_ then (0, 12, true) else refDeco (refWords 0 (splitL 32 vl)))
  else (0, 0, false)
/-- A declaration's step, by the document. -/
def refStep (st : Int × Int) (d : List UInt8) : Int × Int :=
  if (cutL d).2.2 = true then
    (if (refSays (low (Lib.trimB (cutL d).1 32)) (low (Lib.trimB (cutL d).2.1 32))).2.2 = true then
      cssSay st (refSays (low (Lib.trimB (cutL d).1 32)) (low (Lib.trimB (cutL d).2.1 32))).1 (refSays (low (Lib.trimB (cutL d).1 32)) (low (Lib.trimB (cutL d).2.1 32))).2.1 else st) else st
def refParse (l : List UInt8) : Int × Int := (splitL 59 l).foldl refStep (0, 0)
/-- One of the three values: no bit, some. -/
theorem words_both : ∀ (r : List (List UInt8)) (b : Int) (s : Bool), (b = 0 ∨ b = 4 ∨ b = 8 ∨ b = 12) → s = (b != 0) →
    wordsGo b s r = match refWords b r with | some c => (c, c != 0) | none => (0, false)
  | [], b, s, _, hs => by rw [wordsGo, refWords, hs]
  | w :: r, b, s, hb, hs => by
    have h4 : bits .or .i64 b 4 = 4 ∨ bits .or .i64 b 4 = 12 := by rcases hb with rfl | rfl | rfl | rfl <;> decide +kernel
    have h8 : bits .or .i64 b 8 = 8 ∨ bits .or .i64 b 8 = 12 := by rcases hb with rfl | rfl | rfl | rfl <;> decide +kernel
    unfold wordsGo refWords
    split
    · refine words_both r _ _ ?_ ?_
      · rcases h4 with h | h <;> simp [h]
      · rcases h4 with h | h <;> rw [h] <;> rfl
    · split
      · refine words_both r _ _ ?_ ?_
        · rcases h8 with h | h <;> simp [h]
        · rcases h8 with h | h <;> rw [h] <;> rfl
      · split
        · exact words_both r _ _ hb hs
        · rfl
theorem words_ref (vl : List UInt8) : words vl = match refWords 0 (splitL 32 vl) with | some c => (c, c != 0) | none => (0, false) := words_both _ _ _ (.inl rfl) rfl
theorem colon_inj {a b c d : List UInt8} (ha : 58 ∉ a) (hc : 58 ∉ c) : a ++ 58 :: b = c ++ 58 :: d ↔ a = c ∧ b = d := by
  constructor
  · induction a generalizing c with
    | nil =>
      cases c with
      | nil => intro h; simpa using h
      | cons y c => intro h; simp at h; exact absurd (h.1 ▸ List.mem_cons_self) hc
    | cons x a ih =>
      cases c with
      | nil => intro h; simp at h; exact absurd (h.1 ▸ List.mem_cons_self) ha
      | cons y c =>
        intro h
        simp at h
        obtain ⟨rfl, h⟩ := h
        obtain ⟨rfl, rfl⟩ := ih (fun h => ha (List.mem_cons_of_mem _ h)) (fun h => hc (List.mem_cons_of_mem _ h)) h
        exact ⟨rfl, rfl⟩
  · rintro ⟨rfl, rfl⟩; rfl
theorem step_ref (st : Int × Int) (nm vl : List UInt8) (h : 58 ∉ nm) : cssStep st (nm, vl) = if (refSays nm vl).2.2 = true then cssSay st (refSays nm vl).1 (refSays nm vl).2.1 else st := by
  have e : cssStep st (nm, vl) = if nm ++ 58 :: vl = fontWeight ++ 58 :: bold then cssSay st 1 0 else if nm ++ 58 :: vl = fontWeight ++ 58 :: w700 then cssSay st 1 0 else
    if nm ++ 58 :: vl = fontWeight ++ 58 :: normal then cssSay st 0 1 else if nm ++ 58 :: vl = fontWeight ++ 58 :: w400 then cssSay st 0 1 else
    if nm ++ 58 :: vl = fontStyle ++ 58 :: italic then cssSay st 2 0 else if nm ++ 58 :: vl = fontStyle ++ 58 :: normal then cssSay st 0 2 else
    if nm ++ 58 :: vl = textDeco ++ 58 :: none_ then cssSay st 0 12 else
    if (words vl).2 = true then (if nm = textDeco then cssSay st (words vl).1 (bits .andNot .i64 12 (words vl).1) else st) else st := rfl
  rw [e]
  simp only [colon_inj h (show 58 ∉ fontWeight by decide), colon_inj h (show 58 ∉ fontStyle by decide), colon_inj h (show 58 ∉ textDeco by decide)]
  unfold refSays
  have m1 : ¬ normal = bold := by decide
  have m2 : ¬ normal = w700 := by decide
  have m3 : ¬ w400 = bold := by decide
  have m4 : ¬ w400 = w700 := by decide
  have m5 : ¬ w400 = normal := by decide
  have m6 : ¬ normal = italic := by decide
  by_cases h1 : nm = fontWeight
  · subst h1
    have n1 : ¬ fontWeight = fontStyle := by decide
    have n2 : ¬ fontWeight = textDeco := by decide
    by_cases a1 : vl = bold
    · simp [a1]
    · by_cases a2 : vl = w700
      · simp [a2]
      · by_cases a3 : vl = normal
        · simp [a3, m1, m2]
        · by_cases a4 : vl = w400 <;> simp [a1, a2, a3, a4, n1, n2, m3, m4, m5]
  · by_cases h2 : nm = fontStyle
    · subst h2
      have n1 : ¬ fontStyle = fontWeight := by decide
      have n2 : ¬ fontStyle = textDeco := by decide
      by_cases a1 : vl = italic
      · simp [a1, n1]
      · by_cases a2 : vl = normal <;> simp [a1, a2, n1, n2, m6]
    · by_cases h3 : nm = textDeco
      · subst h3
        have n1 : ¬ textDeco = fontWeight := by decide
        have n2 : ¬ textDeco = fontStyle := by decide
        by_cases a1 : vl = none_
        · simp [a1, n1, n2]
        · rw [words_ref]
          cases refWords 0 (splitL 32 vl) <;> simp [a1, n1, n2, refDeco]
      · simp [h1, h2, h3]
theorem cutL_no : ∀ d : List UInt8, 58 ∉ (cutL d).1
  | [] => by simp [cutL]
  | b :: l => by
    unfold cutL
    split
    · simp
    · rename_i hb
      simp only [List.mem_cons, not_or]
      exact ⟨fun e => hb e.symm, cutL_no l⟩
theorem low_no {l : List UInt8} (h : 58 ∉ l) : 58 ∉ low l := by
  unfold low
  rw [List.mem_map]
  rintro ⟨c, hc, e⟩
  unfold lowc at e
  split at e
  · rename_i h2
    have h3 := UInt8.le_iff_toNat_le.1 h2.1
    have h4 := UInt8.le_iff_toNat_le.1 h2.2
    have := congrArg UInt8.toNat e
    rw [UInt8.toNat_add] at this
    simp at this h3 h4
    omega
  · exact h (e ▸ hc)
theorem trim_no {l : List UInt8} {x c : UInt8} (h : x ∉ l) : x ∉ Lib.trimB l c := by
  unfold Lib.trimB Lib.trimLeftB Lib.trimRightB
  intro hm
  have h1 := (List.dropWhile_suffix _).mem hm
  have h2 := (List.dropWhile_suffix _).mem (List.mem_reverse.1 h1)
  exact h (List.mem_reverse.1 h2)
theorem foldl_filterMap' {α β γ : Type} (f : α → Option β) (g : γ → β → γ) : ∀ (l : List α) (b : γ), (l.filterMap f).foldl g b = l.foldl (fun b x => match f x with | some y => g b y | none => b) b
  | [], _ => rfl
  | x :: l, b => by
    rw [List.foldl_cons]
    cases h : f x with
    | none => rw [List.filterMap_cons_none h]; exact foldl_filterMap' f g l b
    | some y => rw [List.filterMap_cons_some h, List.foldl_cons]; exact foldl_filterMap' f g l _
theorem parse_ref (l : List UInt8) : cssParse l = refParse l := by
  unfold cssParse refParse decls
  rw [foldl_filterMap']
  congr 1
  funext st d
  unfold refStep declOf
  rw [cut_eq]
  by_cases h : (cutL d).2.2 = true
  · rw [if_pos h, if_pos h]
    exact step_ref st _ _ (low_no (trim_no (cutL_no d)))
  · rw [if_neg h, if_neg h]
/-- Where the first ':' is. -/
theorem cutL_at : ∀ (d : List UInt8) (k : Nat), (∀ j, j < k → d[j]? ≠ some 58) → (d[k]? = some 58 → cutL d = (d.take k, d.drop (k + 1), true)) ∧ (k = d.length → cutL d = (d, [], false))
  | [], k, _ => ⟨fun h => by simp at h, fun _ => rfl⟩
  | b :: l, 0, _ => ⟨fun h => by
      simp at h
      subst h
      simp [cutL], fun h => by simp at h⟩
  | b :: l, k + 1, hj => by
    have hb : b ≠ 58 := fun e => hj 0 (by omega) (by simp [e])
    have ih := cutL_at l k (fun j h => by have := hj (j + 1) (by omega); simpa using this)
    constructor
    · intro h
      rw [cutL, if_neg hb, ih.1 (by simpa using h)]
      rfl
    · intro h
      rw [cutL, if_neg hb, ih.2 (by simpa using h)]
end Go.Proofs.Qw
