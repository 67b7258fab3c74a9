/- Plain functions on lists of bytes: what package css computes. No program in sight. -/
import Derived.Lib.SplitLaws
import Derived.Lib.IndexLaws
import Derived.Lib.TrimByte
import Derived.Lib.Join
import Derived.Laws.Entries
namespace Go.Proofs.Qw

/-- 'A' to 'Z' made small. -/
def lowc (c : UInt8) : UInt8 := if 65 ≤ c ∧ c ≤ 90 then c + 32 else c
def low (l : List UInt8) : List UInt8 := l.map lowc

/-- A text cut at each byte c. -/
def splitL (c : UInt8) : List UInt8 → List (List UInt8)
  | [] => [[]]
  | b :: l => if b = c then [] :: splitL c l else (b :: (splitL c l).headD []) :: (splitL c l).tail

theorem splitL_ne (c : UInt8) : ∀ l, splitL c l ≠ []
  | [] => by simp [splitL]
  | b :: l => by unfold splitL; split <;> simp

def underline : List UInt8 := [117, 110, 100, 101, 114, 108, 105, 110, 101]
def through : List UInt8 := [108, 105, 110, 101, 45, 116, 104, 114, 111, 117, 103, 104]
def fontWeight : List UInt8 := [102, 111, 110, 116, 45, 119, 101, 105, 103, 104, 116]
def fontStyle : List UInt8 := [102, 111, 110, 116, 45, 115, 116, 121, 108, 101]
def textDeco : List UInt8 := [116, 101, 120, 116, 45, 100, 101, 99, 111, 114, 97, 116, 105, 111, 110]
def bold : List UInt8 := [98, 111, 108, 100]
def w700 : List UInt8 := [55, 48, 48]
def normal : List UInt8 := [110, 111, 114, 109, 97, 108]
def w400 : List UInt8 := [52, 48, 48]
def italic : List UInt8 := [105, 116, 97, 108, 105, 99]
def none_ : List UInt8 := [110, 111, 110, 101]

/-- The words of a value of text-decoration: the bits, and whether there was one. -/
def wordsGo (b : Int) (s : Bool) : List (List UInt8) → Int × Bool
  | [] => (b, s)
  | w :: r => if w = underline then wordsGo (bits .or .i64 b 4) true r
    else if w = through then wordsGo (bits .or .i64 b 8) true r
    else if w = [] then wordsGo b s r else (0, false)
def words (l : List UInt8) : Int × Bool := wordsGo 0 false (splitL 32 l)

theorem wordsGo1 {b : Int} {s : Bool} {w : List UInt8} {r : List (List UInt8)} (h : w = underline) : wordsGo b s (w :: r) = wordsGo (bits .or .i64 b 4) true r := by rw [wordsGo, if_pos h]
theorem wordsGo2 {b : Int} {s : Bool} {w : List UInt8} {r : List (List UInt8)} (h1 : w ≠ underline) (h : w = through) : wordsGo b s (w :: r) = wordsGo (bits .or .i64 b 8) true r := by rw [wordsGo, if_neg h1, if_pos h]
theorem wordsGo3 {b : Int} {s : Bool} {w : List UInt8} {r : List (List UInt8)} (h1 : w ≠ underline) (h2 : w ≠ through) (h : w = []) : wordsGo b s (w :: r) = wordsGo b s r := by rw [wordsGo, if_neg h1, if_neg h2, if_pos h]
theorem wordsGo4 {b : Int} {s : Bool} {w : List UInt8} {r : List (List UInt8)} (h1 : w ≠ underline) (h2 : w ≠ through) (h : w ≠ []) : wordsGo b s (w :: r) = (0, false) := by rw [wordsGo, if_neg h1, if_neg h2, if_neg h]

theorem low_length (l : List UInt8) : (low l).length = l.length := by simp [low]
theorem lowc_yes {b : UInt8} (h1 : 65 ≤ (b.toNat : Int)) (h2 : (b.toNat : Int) ≤ 90) : (b.toNat : Int) + 32 = ((lowc b).toNat : Int) := by
  have : 65 ≤ b ∧ b ≤ 90 := by rw [UInt8.le_iff_toNat_le, UInt8.le_iff_toNat_le]; simp; omega
  unfold lowc
  rw [if_pos this, UInt8.toNat_add]
  simp; omega
theorem lowc_no {b : UInt8} (h : ¬ (65 ≤ (b.toNat : Int) ∧ (b.toNat : Int) ≤ 90)) : lowc b = b := by
  unfold lowc
  rw [if_neg]
  rw [UInt8.le_iff_toNat_le, UInt8.le_iff_toNat_le]; simp; omega
theorem low_step {l : List UInt8} {k : Nat} {b : UInt8} (h : l[k]? = some b) : (low (l.take k) ++ l.drop k).set k (lowc b) = low (l.take (k + 1)) ++ l.drop (k + 1) := by
  obtain ⟨hk, rfl⟩ := List.getElem?_eq_some_iff.1 h
  have e : (low (l.take k)).length = k := by rw [low_length, List.length_take]; omega
  rw [List.set_append_right _ _ (by omega), e, Nat.sub_self, List.drop_eq_getElem_cons hk, List.set_cons_zero, List.take_succ_eq_append_getElem hk]
  unfold low
  rw [List.map_append, List.append_assoc]
  rfl
theorem low_keep {l : List UInt8} {k : Nat} {b : UInt8} (h : l[k]? = some b) (hb : lowc b = b) : low (l.take k) ++ l.drop k = low (l.take (k + 1)) ++ l.drop (k + 1) := by
  rw [← low_step h, hb]
  obtain ⟨hk, rfl⟩ := List.getElem?_eq_some_iff.1 h
  have e : (low (l.take k)).length = k := by rw [low_length, List.length_take]; omega
  rw [List.set_append_right _ _ (by omega), e, Nat.sub_self, List.drop_eq_getElem_cons hk, List.set_cons_zero]

/- strings.Split at one byte is splitL. -/
theorem index_one_cons (b c : UInt8) (l : List UInt8) : Lib.index (b :: l) [c] = if b = c then 0 else if Lib.index l [c] = -1 then -1 else Lib.index l [c] + 1 := by
  rw [Lib.index_one, Lib.index_one, Lib.indexByte]
  simp only [beq_iff_eq]

theorem splitK_eq (c : UInt8) : ∀ (l : List UInt8) (k : Nat), l.count c ≤ k → Lib.splitK [c] 0 k l = splitL c l := by
  intro l
  induction l with
  | nil => intro k _; cases k <;> simp [Lib.splitK, splitL, Lib.index_one, Lib.indexByte]
  | cons b l ih =>
    intro k hk
    by_cases hb : b = c
    · subst hb
      cases k with
      | zero => simp at hk
      | succ k =>
        rw [Lib.splitK, index_one_cons, if_pos rfl]
        simp only [List.length_singleton]
        rw [splitL, if_pos rfl]
        simp
        exact ih k (by simpa using hk)
    · rw [splitL, if_neg hb]
      rw [List.count_cons_of_ne hb] at hk
      have hi := ih k hk
      have hge := Lib.indexByte_ge l c
      rw [← Lib.index_one] at hge
      cases k with
      | zero =>
        have : splitL c l = [l] := by rw [← hi, Lib.splitK]
        rw [Lib.splitK, this]; simp
      | succ k =>
        rw [Lib.splitK, index_one_cons, if_neg hb]
        rw [← hi, Lib.splitK]
        by_cases h1 : Lib.index l [c] = -1
        · simp [h1]
        · have h4 : (Lib.index l [c] == -1) = false := by rw [beq_eq_false_iff_ne]; exact h1
          have h5 : ¬ Lib.index l [c] + 1 = -1 := by omega
          simp only [h4, if_neg h1, Bool.false_eq_true, if_false, List.length_singleton, beq_iff_eq, if_neg h5]
          have e1 : (Lib.index l [c] + 1).toNat = (Lib.index l [c]).toNat + 1 := by omega
          simp [e1]

theorem splitB_one (c : UInt8) (s : ByteArray) : (Lib.splitB ⟨#[c]⟩ 0 (Lib.countB s ⟨#[c]⟩) s).map (·.data.toList) = splitL c s.data.toList := by
  rw [Lib.splitB_data]
  refine splitK_eq c _ _ ?_
  show _ ≤ Lib.count s.data.toList [c]
  rw [Lib.count_one]
  exact Nat.le_refl _
theorem splitB_len (c : UInt8) (s : ByteArray) : (Lib.splitB ⟨#[c]⟩ 0 (Lib.countB s ⟨#[c]⟩) s).length = Lib.countB s ⟨#[c]⟩ + 1 :=
  Lib.splitB_all ⟨#[c]⟩ (Nat.le_refl 1) 0 _ s rfl
theorem countB_small (c : UInt8) (s : ByteArray) : Lib.countB s ⟨#[c]⟩ ≤ s.size := Lib.countB_le ⟨#[c]⟩ (Nat.le_refl 1) _ s (Nat.le_refl _)

/-- A style's declarations: those that have a ':', each as its property and its value. -/
def declOf (d : List UInt8) : Option (List UInt8 × List UInt8) :=
  if (Lib.cut d [58]).2.2 = true then some (low (Lib.trimB (Lib.cut d [58]).1 32), low (Lib.trimB (Lib.cut d [58]).2.1 32)) else none
def decls (l : List UInt8) : List (List UInt8 × List UInt8) := (splitL 59 l).filterMap declOf

theorem splitL_le (c : UInt8) : ∀ (l : List UInt8) (x : List UInt8), x ∈ splitL c l → x.length ≤ l.length
  | [], x, h => by simp [splitL] at h; simp [h]
  | b :: l, x, h => by
    unfold splitL at h
    split at h
    · rcases List.mem_cons.1 h with rfl | h
      · simp
      · have := splitL_le c l x h; simp; omega
    · rcases List.mem_cons.1 h with rfl | h
      · have hn := splitL_ne c l
        match hs : splitL c l with
        | [] => exact absurd hs hn
        | y :: r =>
          have := splitL_le c l y (by rw [hs]; simp)
          simp; omega
      · have := splitL_le c l x (List.mem_of_mem_tail h); simp; omega
theorem dropWhile_le {α : Type} (p : α → Bool) : ∀ l : List α, (l.dropWhile p).length ≤ l.length
  | [] => by simp
  | b :: l => by rw [List.dropWhile_cons]; have := dropWhile_le p l; split <;> simp; omega
theorem trimB_le (l : List UInt8) (c : UInt8) : (Lib.trimB l c).length ≤ l.length := by
  unfold Lib.trimB Lib.trimLeftB Lib.trimRightB
  have h1 := dropWhile_le (· == c) l.reverse
  have h2 := dropWhile_le (· == c) (l.reverse.dropWhile (· == c)).reverse
  simp at h1 h2
  simp; omega
theorem cut_le (d : List UInt8) : (Lib.cut d [58]).1.length ≤ d.length ∧ (Lib.cut d [58]).2.1.length ≤ d.length := by
  unfold Lib.cut
  split <;> simp
  omega
theorem take_snoc {α : Type} {xs : List α} {k : Nat} {x : α} (h : xs[k]? = some x) : xs.take (k + 1) = xs.take k ++ [x] := by
  obtain ⟨hk, rfl⟩ := List.getElem?_eq_some_iff.1 h
  exact List.take_succ_eq_append_getElem hk
theorem fm_none {α β γ : Type} {f : α → β} {g : β → Option γ} {xs : List α} {k : Nat} {x : α} (h : xs[k]? = some x) (hg : g (f x) = none) : ((xs.take (k + 1)).map f).filterMap g = ((xs.take k).map f).filterMap g := by
  rw [take_snoc h, List.map_append, List.filterMap_append, List.map_singleton, List.filterMap_cons_none hg, List.filterMap_nil, List.append_nil]
theorem fm_some {α β γ : Type} {f : α → β} {g : β → Option γ} {xs : List α} {k : Nat} {x : α} {y : γ} (h : xs[k]? = some x) (hg : g (f x) = some y) : ((xs.take (k + 1)).map f).filterMap g = ((xs.take k).map f).filterMap g ++ [y] := by
  rw [take_snoc h, List.map_append, List.filterMap_append, List.map_singleton, List.filterMap_cons_some hg, List.filterMap_nil]

/-- What a declaration sets and clears is laid over what was said. -/
def cssSay (st : Int × Int) (on off : Int) : Int × Int := (bits .or .i64 (bits .andNot .i64 st.1 off) on, bits .or .i64 (bits .andNot .i64 st.2 on) off)
/-- .. t: the property, ':' and the value. -/
def cssStepT (t : List UInt8) (st : Int × Int) (nm vl : List UInt8) : Int × Int :=
  if t = [102, 111, 110, 116, 45, 119, 101, 105, 103, 104, 116, 58, 98, 111, 108, 100] then cssSay st 1 0 else
  if t = [102, 111, 110, 116, 45, 119, 101, 105, 103, 104, 116, 58, 55, 48, 48] then cssSay st 1 0 else
  if t = [102, 111, 110, 116, 45, 119, 101, 105, 103, 104, 116, 58, 110, 111, 114, 109, 97, 108] then cssSay st 0 1 else
  if t = [102, 111, 110, 116, 45, 119, 101, 105, 103, 104, 116, 58, 52, 48, 48] then cssSay st 0 1 else
  if t = [102, 111, 110, 116, 45, 115, 116, 121, 108, 101, 58, 105, 116, 97, 108, 105, 99] then cssSay st 2 0 else
  if t = [102, 111, 110, 116, 45, 115, 116, 121, 108, 101, 58, 110, 111, 114, 109, 97, 108] then cssSay st 0 2 else
  if t = [116, 101, 120, 116, 45, 100, 101, 99, 111, 114, 97, 116, 105, 111, 110, 58, 110, 111, 110, 101] then cssSay st 0 12 else
  if (words vl).2 = true then (if nm = textDeco then cssSay st (words vl).1 (bits .andNot .i64 12 (words vl).1) else st) else st
def cssStep (st : Int × Int) (x : List UInt8 × List UInt8) : Int × Int := cssStepT (x.1 ++ 58 :: x.2) st x.1 x.2
theorem cssT1 {t : List UInt8} {st : Int × Int} {nm vl : List UInt8} (h : t = [102, 111, 110, 116, 45, 119, 101, 105, 103, 104, 116, 58, 98, 111, 108, 100]) : cssStepT t st nm vl = cssSay st 1 0 := by rw [cssStepT, if_pos h]
theorem cssT2 {t : List UInt8} {st : Int × Int} {nm vl : List UInt8} (h1 : ¬ t = [102, 111, 110, 116, 45, 119, 101, 105, 103, 104, 116, 58, 98, 111, 108, 100]) (h : t = [102, 111, 110, 116, 45, 119, 101, 105, 103, 104, 116, 58, 55, 48, 48]) : cssStepT t st nm vl = cssSay st 1 0 := by rw [cssStepT, if_neg h1, if_pos h]
theorem cssT3 {t : List UInt8} {st : Int × Int} {nm vl : List UInt8} (h1 : ¬ t = [102, 111, 110, 116, 45, 119, 101, 105, 103, 104, 116, 58, 98, 111, 108, 100]) (h2 : ¬ t = [102, 111, 110, 116, 45, 119, 101, 105, 103, 104, 116, 58, 55, 48, 48])
    (h : t = [102, 111, 110, 116, 45, 119, 101, 105, 103, 104, 116, 58, 110, 111, 114, 109, 97, 108]) : cssStepT t st nm vl = cssSay st 0 1 := by rw [cssStepT, if_neg h1, if_neg h2, if_pos h]
theorem cssT4 {t : List UInt8} {st : Int × Int} {nm vl : List UInt8} (h1 : ¬ t = [102, 111, 110, 116, 45, 119, 101, 105, 103, 104, 116, 58, 98, 111, 108, 100]) (h2 : ¬ t = [102, 111, 110, 116, 45, 119, 101, 105, 103, 104, 116, 58, 55, 48, 48])
    (h3 : ¬ t = [102, 111, 110, 116, 45, 119, 101, 105, 103, 104, 116, 58, 110, 111, 114, 109, 97, 108]) (h : t = [102, 111, 110, 116, 45, 119, 101, 105, 103, 104, 116, 58, 52, 48, 48]) : cssStepT t st nm vl = cssSay st 0 1 := by
  rw [cssStepT, if_neg h1, if_neg h2, if_neg h3, if_pos h]
theorem cssT5 {t : List UInt8} {st : Int × Int} {nm vl : List UInt8} (h1 : ¬ t = [102, 111, 110, 116, 45, 119, 101, 105, 103, 104, 116, 58, 98, 111, 108, 100]) (h2 : ¬ t = [102, 111, 110, 116, 45, 119, 101, 105, 103, 104, 116, 58, 55, 48, 48])
    (h3 : ¬ t = [102, 111, 110, 116, 45, 119, 101, 105, 103, 104, 116, 58, 110, 111, 114, 109, 97, 108]) (h4 : ¬ t = [102, 111, 110, 116, 45, 119, 101, 105, 103, 104, 116, 58, 52, 48, 48])
    (h : t = [102, 111, 110, 116, 45, 115, 116, 121, 108, 101, 58, 105, 116, 97, 108, 105, 99]) : cssStepT t st nm vl = cssSay st 2 0 := by rw [cssStepT, if_neg h1, if_neg h2, if_neg h3, if_neg h4, if_pos h]
theorem cssT6 {t : List UInt8} {st : Int × Int} {nm vl : List UInt8} (h1 : ¬ t = [102, 111, 110, 116, 45, 119, 101, 105, 103, 104, 116, 58, 98, 111, 108, 100]) (h2 : ¬ t = [102, 111, 110, 116, 45, 119, 101, 105, 103, 104, 116, 58, 55, 48, 48])
    (h3 : ¬ t = [102, 111, 110, 116, 45, 119, 101, 105, 103, 104, 116, 58, 110, 111, 114, 109, 97, 108]) (h4 : ¬ t = [102, 111, 110, 116, 45, 119, 101, 105, 103, 104, 116, 58, 52, 48, 48])
    (h5 : ¬ t = [102, 111, 110, 116, 45, 115, 116, 121, 108, 101, 58, 105, 116, 97, 108, 105, 99]) (h : t = [102, 111, 110, 116, 45, 115, 116, 121, 108, 101, 58, 110, 111, 114, 109, 97, 108]) : cssStepT t st nm vl = cssSay st 0 2 := by
  rw [cssStepT, if_neg h1, if_neg h2, if_neg h3, if_neg h4, if_neg h5, if_pos h]
theorem cssT7 {t : List UInt8} {st : Int × Int} {nm vl : List UInt8} (h1 : ¬ t = [102, 111, 110, 116, 45, 119, 101, 105, 103, 104, 116, 58, 98, 111, 108, 100]) (h2 : ¬ t = [102, 111, 110, 116, 45, 119, 101, 105, 103, 104, 116, 58, 55, 48, 48])
    (h3 : ¬ t = [102, 111, 110, 116, 45, 119, 101, 105, 103, 104, 116, 58, 110, 111, 114, 109, 97, 108]) (h4 : ¬ t = [102, 111, 110, 116, 45, 119, 101, 105, 103, 104, 116, 58, 52, 48, 48])
    (h5 : ¬ t = [102, 111, 110, 116, 45, 115, 116, 121, 108, 101, 58, 105, 116, 97, 108, 105, 99]) (h6 : ¬ t = [102, 111, 110, 116, 45, 115, 116, 121, 108, 101, 58, 110, 111, 114, 109, 97, 108])
    (h : t = [116, 101, 120, 116, 45, 100, 101, 99, 111, 114, 97, 116, 105, 111, 110, 58, 110, 111, 110, 101]) : cssStepT t st nm vl = cssSay st 0 12 := by
  rw [cssStepT, if_neg h1, if_neg h2, if_neg h3, if_neg h4, if_neg h5, if_neg h6, if_pos h]
theorem cssT8 {t : List UInt8} {st : Int × Int} {nm vl : List UInt8} (h1 : ¬ t = [102, 111, 110, 116, 45, 119, 101, 105, 103, 104, 116, 58, 98, 111, 108, 100]) (h2 : ¬ t = [102, 111, 110, 116, 45, 119, 101, 105, 103, 104, 116, 58, 55, 48, 48])
    (h3 : ¬ t = [102, 111, 110, 116, 45, 119, 101, 105, 103, 104, 116, 58, 110, 111, 114, 109, 97, 108]) (h4 : ¬ t = [102, 111, 110, 116, 45, 119, 101, 105, 103, 104, 116, 58, 52, 48, 48])
    (h5 : ¬ t = [102, 111, 110, 116, 45, 115, 116, 121, 108, 101, 58, 105, 116, 97, 108, 105, 99]) (h6 : ¬ t = [102, 111, 110, 116, 45, 115, 116, 121, 108, 101, 58, 110, 111, 114, 109, 97, 108])
    (h7 : ¬ t = [116, 101, 120, 116, 45, 100, 101, 99, 111, 114, 97, 116, 105, 111, 110, 58, 110, 111, 110, 101]) :
    cssStepT t st nm vl = if (words vl).2 = true then (if nm = textDeco then cssSay st (words vl).1 (bits .andNot .i64 12 (words vl).1) else st) else st := by
  rw [cssStepT, if_neg h1, if_neg h2, if_neg h3, if_neg h4, if_neg h5, if_neg h6, if_neg h7]
def cssParse (l : List UInt8) : Int × Int := (decls l).foldl cssStep (0, 0)

/-- What 'put' adds to the row of declarations. -/
def putF (x y b : Int) (nm on off : List UInt8) (l : List (List UInt8)) : List (List UInt8) :=
  if (bits .and .i64 x b != 0) = true then l ++ [nm ++ 58 :: 32 :: on] else if (bits .and .i64 y b != 0) = true then l ++ [nm ++ 58 :: 32 :: off] else l
theorem putF_len (x y b : Int) (nm on off : List UInt8) (l : List (List UInt8)) : (putF x y b nm on off l).length ≤ l.length + 1 := by
  unfold putF; split
  · simp
  · split <;> simp
def rowF (x : Int) : List (List UInt8) := (if (bits .and .i64 x 4 != 0) = true then [underline] else []) ++ (if (bits .and .i64 x 8 != 0) = true then [through] else [])
def cssPrint (x y : Int) : List UInt8 :=
  Lib.join (putF x y 12 textDeco (Lib.join (rowF x) [32]) none_ (putF x y 2 fontStyle italic normal (putF x y 1 fontWeight bold normal []))) [59, 32]
theorem join_le (sep : List UInt8) : ∀ (l : List (List UInt8)) (n : Nat), (∀ x ∈ l, x.length ≤ n) → (Lib.join l sep).length ≤ l.length * (n + sep.length)
  | [], n, _ => by simp [Lib.join_nil]
  | x :: r, n, h => by
    rw [Lib.join_cons]
    have hx := h x (by simp)
    have : ∀ r : List (List UInt8), (∀ x ∈ r, x.length ≤ n) → (Lib.joinTail sep r).length ≤ r.length * (n + sep.length) := by
      intro r
      induction r with
      | nil => intro _; simp [Lib.joinTail]
      | cons y r ih =>
        intro h
        have h1 := h y (by simp)
        have h2 := ih (fun x hx => h x (by simp [hx]))
        simp only [Lib.joinTail, List.map_cons, List.flatten_cons, List.length_append, List.length_cons, Nat.add_mul, Nat.one_mul] at h2 ⊢
        omega
    have h2 := this r (fun x hx => h x (by simp [hx]))
    simp only [List.length_append, List.length_cons, Nat.add_mul, Nat.one_mul]
    omega
theorem putF_mem {x y b : Int} {nm on off : List UInt8} {l : List (List UInt8)} {n : Nat} (hl : ∀ z ∈ l, z.length ≤ n) (h1 : nm.length + 2 + on.length ≤ n) (h2 : nm.length + 2 + off.length ≤ n) : ∀ z ∈ putF x y b nm on off l, z.length ≤ n := by
  intro z hz
  unfold putF at hz
  split at hz
  · rcases List.mem_append.1 hz with hz | hz
    · exact hl z hz
    · rw [List.mem_singleton.1 hz]; simp; omega
  · split at hz
    · rcases List.mem_append.1 hz with hz | hz
      · exact hl z hz
      · rw [List.mem_singleton.1 hz]; simp; omega
    · exact hl z hz
theorem put_join (x y : Int) (s : List UInt8) (hs : s.length ≤ 100) : (Lib.join (putF x y 12 textDeco s none_ (putF x y 2 fontStyle italic normal (putF x y 1 fontWeight bold normal []))) [59, 32]).length ≤ 140737488355328 := by
  have h := join_le [59, 32] (putF x y 12 textDeco s none_ (putF x y 2 fontStyle italic normal (putF x y 1 fontWeight bold normal []))) 200
    (putF_mem (putF_mem (putF_mem (by simp) (by decide) (by decide)) (by decide) (by decide)) (by simp [textDeco]; omega) (by decide))
  have h1 := putF_len x y 12 textDeco s none_ (putF x y 2 fontStyle italic normal (putF x y 1 fontWeight bold normal []))
  have h2 := putF_len x y 2 fontStyle italic normal (putF x y 1 fontWeight bold normal [])
  have h3 := putF_len x y 1 fontWeight bold normal []
  simp at h3 h
  have : (putF x y 12 textDeco s none_ (putF x y 2 fontStyle italic normal (putF x y 1 fontWeight bold normal []))).length * 202 ≤ 3 * 202 := Nat.mul_le_mul_right _ (by omega)
  omega
theorem put_join606 (x y : Int) (s : List UInt8) (hs : s.length ≤ 100) : (Lib.join (putF x y 12 textDeco s none_ (putF x y 2 fontStyle italic normal (putF x y 1 fontWeight bold normal []))) [59, 32]).length ≤ 606 := by
  have h := join_le [59, 32] (putF x y 12 textDeco s none_ (putF x y 2 fontStyle italic normal (putF x y 1 fontWeight bold normal []))) 200
    (putF_mem (putF_mem (putF_mem (by simp) (by decide) (by decide)) (by decide) (by decide)) (by simp [textDeco]; omega) (by decide))
  have h1 := putF_len x y 12 textDeco s none_ (putF x y 2 fontStyle italic normal (putF x y 1 fontWeight bold normal []))
  have h2 := putF_len x y 2 fontStyle italic normal (putF x y 1 fontWeight bold normal [])
  have h3 := putF_len x y 1 fontWeight bold normal []
  simp at h3 h
  have : (putF x y 12 textDeco s none_ (putF x y 2 fontStyle italic normal (putF x y 1 fontWeight bold normal []))).length * 202 ≤ 3 * 202 := Nat.mul_le_mul_right _ (by omega)
  omega
theorem rowF_join (x : Int) : (Lib.join (rowF x) [32]).length ≤ 100 := by
  unfold rowF
  split <;> split <;> decide
theorem cssPrint_len (x y : Int) : (cssPrint x y).length ≤ 606 := put_join606 x y _ (rowF_join x)
end Go.Proofs.Qw
