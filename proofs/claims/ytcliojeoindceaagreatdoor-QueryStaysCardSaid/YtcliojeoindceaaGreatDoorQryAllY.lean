/- Parts of the proof. -/
import Derived.Test.YtcliojeoindceaaGreatDoorRunesY
import Derived.Test.YtcliojeoindceaaGreatDoorStSpanY
import Derived.Test.YtcliojeoindceaaGreatDoorDocSplitY
import Derived.Test.YtcliojeoindceaaGreatDoorLaidY
import Derived.Test.YtcliojeoindceaaGreatDoorPartBaseY
import Derived.Maps.OwnSet
import Derived.Maps.OwnOps
import Derived.Test.YtcliojeoindceaaGreatDoorAttrWalkY
set_option linter.unusedVariables false
set_option linter.unusedSimpArgs false
set_option maxHeartbeats 8000000
namespace Go.Proofs.Qw
open Go.RowKit Go.Proofs.YtcliojeoindceaaGreatDoor
open _root_.Nat renaming le_refl → zC
open _root_.List renaming getElem?_eq_some_iff → zK, length_append → zS
def outS (s : St) : Doc := zAb s.lines (qV s).1 (qV s).2
def endS (x : Doc × Ps × Int) : St × Int := if x.2.2 = 0 then (zBi x.1 x.2.1, 0) else (noS, x.2.2)
def keyS (s : St) (x : Doc × Ps × Int) : St × Int := if mayS s = true then endS x else (noS, 1)
def xC (d : Doc) (p : Ps) : Lin := d.getD p.line.toNat default
def zAM (l : List Cel) (b : Int) : Int := match l with | [] => b | c :: _ => c.bits
def typB (s : St) : Int := bits .or .i64 (bits .andNot .i64 (zAM (cellsD s.lines (qV s).1 (qV s).2) (kV (xC s.lines (qV s).1).cells (qV s).1.col.toNat).1) s.off) s.on
def vT (s : St) (t : ByteArray) : Doc × Ps × Int :=
 if 8192 < t.size then ([], (qV s).1, 10) else if xV t = [] then ([], (qV s).1, 7)
 else kQ (cellsOf (xV t) (typB s) (kV (xC (outS s) (qV s).1).cells (qV s).1.col.toNat).2) (outS s) (qV s).1
def putK (d : Doc) (p : Ps) (r : Option Lin) (x : Doc × Ps × Int) : Doc × Ps × Int := match r with | some l => (d.set p.line.toNat l, p, 0) | none => x
def zCc (s : St) : Doc × Ps × Int :=
 putK (outS s) (qV s).1 (if (xC (outS s) (qV s).1).cells = [] then kM (xC (outS s) (qV s).1) else none) (kZ (outS s) (qV s).1)
def cutK (d : Doc) (a b p : Ps) : Doc × Ps × Int := ((kR d a b).1, p, (kR d a b).2)
def uQ (s : St) : Doc × Ps × Int :=
 if s.anc = s.foc then
  putK (outS s) (qV s).1 (if (qV s).1.col = 0 then vN (xC (outS s) (qV s).1) else none)
   (if (kK (outS s) (qV s).1 (-1)).2 = true then cutK (outS s) (kK (outS s) (qV s).1 (-1)).1 (qV s).1 (kK (outS s) (qV s).1 (-1)).1 else ([], (qV s).1, 7))
 else (outS s, (qV s).1, 0)
def zAw (s : St) : Doc × Ps × Int :=
 if s.anc = s.foc then
  (if (kK (outS s) (qV s).1 1).2 = true then cutK (outS s) (qV s).1 (kK (outS s) (qV s).1 1).1 (qV s).1 else ([], (qV s).1, 7))
 else (outS s, (qV s).1, 0)
theorem zGg {d : Doc} {p : Ps} (hM : mayD d = true) (hp : isD d p = true) : jU d p p = true := by
 obtain ⟨i, j, l, rfl, hl, hj⟩ := zBS hp;exact zAr hM hl hl hj hj (zC _) (fun _ => zC _)
theorem yX {s : St} (h : mayS s = true) : mayD (outS s) = true ∧ jU s.lines (qV s).1 (qV s).2 = true ∧ isD (outS s) (qV s).1 = true ∧ kR s.lines (qV s).1 (qV s).2 = (outS s, 0) ∧ isD s.lines (qV s).1 = true := by
 have hsp := zGk h;obtain ⟨hM, i, j, p, q, l, m, ha, hb, hl, hm, hp, hq, hij, hpq⟩ := vF hsp;have hd : kR s.lines (qV s).1 (qV s).2 = (outS s, 0) := by unfold kR; rw [if_pos hsp]; rfl
 refine ⟨?_, hsp, ?_, hd, ?_⟩
 ·unfold outS; rw [ha, hb]; exact zFU hM hl hm hp hq hij hpq
 ·unfold outS; rw [ha, hb]
  exact zAL (d := zAb s.lines ⟨i, p⟩ ⟨j, q⟩) (l := { l with cells := l.cells.take p ++ m.cells.drop q }) (by rw [zFV hl hm, if_neg (Nat.lt_irrefl _), if_pos rfl]) jB
 ·rw [ha]; exact zAL hl hp
theorem zKS {d : Doc} {i j : Nat} {l : Lin} (hl : d[i]? = some l) (hj : j ≤ l.cells.length) :
  kK d ⟨i, j⟩ (-1) = if 0 < j then (⟨i, j - 1⟩, true) else if i = 0 then (⟨0, 0⟩, false) else (⟨i - 1, ((xC d ⟨(i - 1 : Nat), 0⟩).cells.length : Int)⟩, true) := by
 have hi := (zK.1 hl).1;have hg : (d.getD i default) = l := by rw [List.getD_eq_getElem?_getD, hl]; rfl
 have hn := zAk d 0 i j hi (by rw [hg]; exact hj);rw [Nat.zero_add] at hn;have hltn : jH (d.take i) + i + j < (yD d).length := (zK.1 hn).1;rw [zEU (show (yD d)[jH (d.take i) + i + j]? = some ⟨(i : Int), (j : Int)⟩ from hn)]
 by_cases h0 : 0 < j
 ·rw [if_pos h0, if_neg qD, if_neg qD]
  have h2 := zAk d 0 i (j - 1) hi (by rw [hg]; omega);rw [Nat.zero_add] at h2;have h3 := zCH (d := d) (n := jH (d.take i) + i + (j - 1)) h2;rw [show ((jH (d.take i) + i + j : Nat) : Int) + -1 = ((jH (d.take i) + i + (j - 1) : Nat) : Int) by omega, h3];simp only [Prod.mk.injEq, Ps.mk.injEq, and_true, true_and]
  omega
 ·rw [if_neg h0]
  obtain rfl : j = 0 := by omega
  by_cases hi0 : i = 0
  ·subst hi0
   rw [if_pos rfl, if_pos (by simp [jH])]
  ·rw [if_neg hi0]
   obtain ⟨n, rfl⟩ : ∃ n, i = n + 1 := ⟨i - 1, by omega⟩;obtain ⟨m, hm⟩ : ∃ m, d[n]? = some m := ⟨d[n]'qD, List.getElem?_eq_getElem qD⟩;have hgm : (d.getD n default) = m := by rw [List.getD_eq_getElem?_getD, hm]; rfl
   have ht : jH (d.take (n + 1)) = jH (d.take n) + m.cells.length := by rw [← uC, zDR hm, zS, uC]
   rw [if_neg qD, if_neg qD];have h2 := zAk d 0 n m.cells.length qD (by rw [hgm]; exact zC _);rw [Nat.zero_add] at h2;have h3 := zCH (d := d) (n := jH (d.take n) + n + m.cells.length) h2;rw [show ((jH (d.take (n + 1)) + (n + 1) + 0 : Nat) : Int) + -1 = ((jH (d.take n) + n + m.cells.length : Nat) : Int) by rw [ht]; omega, h3];have : (xC d ⟨((n + 1 - 1 : Nat) : Int), 0⟩) = m := by unfold xC; simpa using hgm
   rw [this];simp only [Prod.mk.injEq, Ps.mk.injEq, and_true]
   omega
theorem zJZ {d : Doc} {i j : Nat} {l : Lin} (hl : d[i]? = some l) (hj : j ≤ l.cells.length) :
  kK d ⟨i, j⟩ 1 = if j < l.cells.length then (⟨i, j + 1⟩, true) else if i + 1 < d.length then (⟨i + 1, 0⟩, true) else (endD d, false) := by
 have hi := (zK.1 hl).1;have hg : (d.getD i default) = l := by rw [List.getD_eq_getElem?_getD, hl]; rfl
 have hn := zAk d 0 i j hi (by rw [hg]; exact hj);rw [Nat.zero_add] at hn;rw [zEU (show (yD d)[jH (d.take i) + i + j]? = some ⟨(i : Int), (j : Int)⟩ from hn), if_neg qD]
 by_cases h0 : j < l.cells.length
 ·rw [if_pos h0]
  have h2 := zAk d 0 i (j + 1) hi (by rw [hg]; omega);rw [Nat.zero_add] at h2;have hlt := (zK.1 h2).1;have h3 := zCH (d := d) (n := jH (d.take i) + i + (j + 1)) h2;rw [if_neg (by unfold yD; omega), show ((jH (d.take i) + i + j : Nat) : Int) + 1 = ((jH (d.take i) + i + (j + 1) : Nat) : Int) by omega, h3];simp only [Prod.mk.injEq, Ps.mk.injEq, and_true, true_and]
  omega
 ·rw [if_neg h0]
  obtain rfl : j = l.cells.length := by omega
  have ht : jH (d.take (i + 1)) = jH (d.take i) + l.cells.length := by rw [← uC, zDR hl, zS, uC]
  by_cases h1 : i + 1 < d.length
  ·rw [if_pos h1]
   have h2 := zAk d 0 (i + 1) 0 h1 (Nat.zero_le _);rw [Nat.zero_add] at h2;have hlt := (zK.1 h2).1;have h3 := zCH (d := d) (n := jH (d.take (i + 1)) + (i + 1) + 0) h2;rw [if_neg (by unfold yD; omega), show ((jH (d.take i) + i + l.cells.length : Nat) : Int) + 1 = ((jH (d.take (i + 1)) + (i + 1) + 0 : Nat) : Int) by omega, h3]
   simp
  ·rw [if_neg h1]
   rw [if_pos];have hlast := zFk (d := d) (by intro e; rw [e] at hi; cases hi);have hE : endD d = ⟨i, l.cells.length⟩ := zNE qD hl;rw [hE] at hlast;have hoff := zCy hlast;have hoff2 := zCy (show (yD d)[jH (d.take i) + i + l.cells.length]? = some ⟨(i : Int), (l.cells.length : Int)⟩ from hn);rw [hoff] at hoff2;have := congrArg Prod.fst hoff2;simp only at this;have hlt := (zK.1 hlast).1
   omega
theorem zCJ {s : St} (h : mayS s = true) (x : Doc × Ps × Int) : keyS s x = endS x := by unfold keyS; rw [if_pos h]
theorem zLZ {s : St} (h : mayS s = true) (t : ByteArray) : keyS s (vT s t) = if 8192 < t.size then (noS, 10) else if xV t = [] then (noS, 7) else
  endS (kQ (cellsOf (xV t) (typB s) (kV (xC (outS s) (qV s).1).cells (qV s).1.col.toNat).2) (outS s) (qV s).1) := by
 rw [zCJ h];unfold vT
 split
 ·rfl
 ·split <;> rfl
theorem zGo {d : Doc} {i : Nat} {l : Lin} (hl : d[i]? = some l) (j : Int) : xC d ⟨i, j⟩ = l := by
 unfold xC;simp only [Int.toNat_natCast];rw [List.getD_eq_getElem?_getD, hl]
 rfl
def zAz (x : St × Int) : Prop := (x.2 = 0 ∧ ∃ d p, x.1 = zBi d p ∧ mayD d = true ∧ isD d p = true) ∨ (x.1 = noS ∧ (x.2 = 7 ∨ x.2 = 10))
theorem zKB {d : Doc} {p : Ps} (h : mayD d = true) (hp : isD d p = true) : mayS (zBi d p) = true := by
 unfold mayS zBi;simp only [h, hp, Bool.true_and]
 decide
theorem zNA {d : Doc} {p : Ps} (h : mayD d = true) (hp : isD d p = true) : zAz (zBi d p, 0) := .inl ⟨rfl, d, p, rfl, h, hp⟩
theorem zEj {e : Int} (h : e = 7 ∨ e = 10) : zAz (noS, e) := .inr ⟨rfl, h⟩
theorem zLF (t : ByteArray) : ∀ c ∈ xV t, (mayR c || decide (c = 10)) = true := by
 intro c hc;unfold xV at hc;obtain ⟨x, hx, he⟩ := List.mem_filterMap.1 hc;have h0 := zIN t x hx;have h1 := zLG x;unfold zBX at he
 split at he
 ·cases he
  rw [Bool.or_eq_true];exact .inl (by unfold mayR; rw [zLH]; rfl)
 ·split at he
  ·cases he; rw [Bool.or_eq_true]; exact .inr rfl
  ·split at he
   ·cases he
   ·cases he
    rw [Bool.or_eq_true];exact .inl (by unfold mayR; rw [decide_eq_true_eq]; omega)
theorem zJH {t : ByteArray} {b : Int} {h : List UInt8} (hb : 0 ≤ b ∧ b ≤ 15) (hh : xD h = true) : kC (cellsOf (xV t) b h) = true := by
 unfold kC cellsOf;rw [List.all_eq_true];intro x hx;obtain ⟨c, hc, rfl⟩ := List.mem_map.1 hx;unfold mayC;simp only [zLF t c hc, hb.1, hb.2, hh, decide_true, Bool.and_self]
theorem zJM {l : List Cel} (h : kC l = true) {k : Nat}  : xD (kV l k).2 = true := by
 unfold kV;simp only
 split
 ·rename_i h1
  have hm : (l.getD (k - 1) default) ∈ l := by
   rw [List.getD_eq_getElem?_getD, List.getElem?_eq_getElem (show k - 1 < l.length by omega)];exact List.getElem_mem _
  have := List.all_eq_true.1 h _ hm;unfold mayC at this;simp only [Bool.and_eq_true] at this;exact this.2
 ·rfl
theorem uM {d : Doc} {p : Ps} (h : mayD d = true) (hp : isD d p = true) : ∃ (i j : Nat) (l : Lin), p = ⟨i, j⟩ ∧ d[i]? = some l ∧ j ≤ l.cells.length ∧ mayL l = true ∧ xC d p = l := by
 obtain ⟨i, j, l, rfl, hl, hj⟩ := zBS hp;exact ⟨i, j, l, rfl, hl, hj, (xZ.1 h).2.2.2 l (yI hl), zGo hl _⟩
theorem zNv (x off on : Int) (hx : 0 ≤ x ∧ x ≤ 15) (hf : 0 ≤ off ∧ off ≤ 15) (ho : 0 ≤ on ∧ on ≤ 15) : 0 ≤ bits .or .i64 (bits .andNot .i64 x off) on ∧ bits .or .i64 (bits .andNot .i64 x off) on ≤ 15 := by
 obtain ⟨on, rfl⟩ := Int.eq_ofNat_of_zero_le ho.1;obtain ⟨off, rfl⟩ := Int.eq_ofNat_of_zero_le hf.1;obtain ⟨x, rfl⟩ := Int.eq_ofNat_of_zero_le hx.1;have H : ∀ x off on : Fin 16, 0 ≤ bits .or .i64 (bits .andNot .i64 (x.val : Int) (off.val : Int)) (on.val : Int) ∧ bits .or .i64 (bits .andNot .i64 (x.val : Int) (off.val : Int)) (on.val : Int) ≤ 15 := by decide +kernel
 exact H ⟨x, by omega⟩ ⟨off, by omega⟩ ⟨on, by omega⟩
theorem zLW {s : St} (h : mayS s = true) (hr : RngS s) : 0 ≤ typB s ∧ typB s ≤ 15 := by
 obtain ⟨_, hsp, _, _, hi⟩ := yX h;have hM := (yK h).1;refine zNv _ _ _ ?_ hr.2 hr.1;cases hc : cellsD s.lines (qV s).1 (qV s).2 with
 | nil =>
  obtain ⟨i, j, l, hp, hl, hj, hml, he⟩ := uM hM hi;unfold zAM;simp only;rw [he, hp];exact zGa (uV hml) (by simpa using hj)
 | cons c l => exact zFY hM c (by rw [hc]; exact List.mem_cons_self)
theorem zGZ {d : Doc} {a b : Ps} (h : jU d a b = true) : isD d a = true ∧ isD d b = true := by
 unfold jU at h;simp only [Bool.and_eq_true] at h;exact ⟨h.1.1.2, h.1.2⟩
theorem zFW {d e : Doc} {a b : Ps} (h : kR d a b = (e, 0)) : jU d a b = true := by
 unfold kR at h
 split at h
 ·assumption
 ·cases h
theorem zBo {x : Doc × Ps × Int} (h : (x.2.2 = 0 ∧ mayD x.1 = true ∧ isD x.1 x.2.1 = true) ∨ x.2.2 = 7 ∨ x.2.2 = 10) : zAz (endS x) := by
 unfold endS;rcases h with ⟨h0, h1, h2⟩ | h
 ·rw [if_pos h0]; exact zNA h1 h2
 ·rw [if_neg qD]; exact zEj h
theorem zLp {d : Doc} {p : Ps} {more : List Cel} (h : mayD d = true) (hp : isD d p = true) (hm : kC more = true) : ((kQ more d p).2.2 = 0 ∧ mayD (kQ more d p).1 = true ∧ isD (kQ more d p).1 (kQ more d p).2.1 = true) ∨ (kQ more d p).2.2 = 7 ∨ (kQ more d p).2.2 = 10 := by
 by_cases h0 : (kQ more d p).2.2 = 0
 ·obtain ⟨h1, _, h2⟩ := zJu (more := more) (d := d) (a := p) (x := (kQ more d p).1) (p := (kQ more d p).2.1) (by rw [← h0])
  exact .inl ⟨h0, h1, (zGZ (zFW h2)).2⟩
 ·refine .inr (.inr ?_)
  unfold kQ at h0 ⊢;rw [if_pos (by rw [zGg h hp, hm]; rfl)] at h0 ⊢
  split
  ·rfl
  ·rename_i h3
   rw [if_neg h3] at h0;exact absurd rfl h0
theorem zMf {d : Doc} {p : Ps} (h : mayD d = true) (hp : isD d p = true) : ((kZ d p).2.2 = 0 ∧ mayD (kZ d p).1 = true ∧ isD (kZ d p).1 (kZ d p).2.1 = true) ∨ (kZ d p).2.2 = 7 ∨ (kZ d p).2.2 = 10 := by
 by_cases h0 : (kZ d p).2.2 = 0
 ·obtain ⟨h1, _, h2⟩ := zKa (d := d) (a := p) (x := (kZ d p).1) (p := (kZ d p).2.1) (by rw [← h0])
  exact .inl ⟨h0, h1, (zGZ (zFW h2)).2⟩
 ·refine .inr (.inr ?_)
  unfold kZ at h0 ⊢;rw [if_pos (zGg h hp)] at h0 ⊢
  split
  ·rfl
  ·rename_i h3
   rw [if_neg h3] at h0;exact absurd rfl h0
theorem zBQ {l : Lin} (h1 : 0 ≤ l.quote) (h2 : l.quote ≤ 6) (h3 : l.lists.length ≤ 6) (h4 : 0 ≤ l.kind) (h5 : l.kind ≤ 3) (h6 : l.lists = [] ∨ l.kind = 0) (h7 : ∀ k ∈ l.lists, k = 0 ∨ k = 1) (h8 : kC l.cells = true) : mayL l = true := by
 unfold mayL;simp only [Bool.and_eq_true, Bool.or_eq_true, decide_eq_true_eq, List.all_eq_true];exact ⟨⟨⟨⟨⟨⟨⟨h1, h2⟩, h3⟩, h4⟩, h5⟩, h6⟩, h7⟩, h8⟩
theorem zAG {l : Lin} (h : mayL l = true) : 0 ≤ l.quote ∧ l.quote ≤ 6 ∧ l.lists.length ≤ 6 ∧ 0 ≤ l.kind ∧ l.kind ≤ 3 ∧ (l.lists = [] ∨ l.kind = 0) ∧ (∀ k ∈ l.lists, k = 0 ∨ k = 1) ∧ kC l.cells = true := by
 unfold mayL at h;simp only [Bool.and_eq_true, Bool.or_eq_true, decide_eq_true_eq, List.all_eq_true] at h;obtain ⟨⟨⟨⟨⟨⟨⟨h1, h2⟩, h3⟩, h4⟩, h5⟩, h6⟩, h7⟩, h8⟩ := h;exact ⟨h1, h2, h3, h4, h5, h6, h7, h8⟩
theorem zKg {l l' : Lin} (h : mayL l = true) (he : kM l = some l') : mayL l' = true ∧ l'.cells = l.cells := by
 obtain ⟨h1, h2, h3, h4, h5, h6, h7, h8⟩ := zAG h;unfold kM at he
 split at he
 ·rename_i hne
  cases he;exact ⟨zBQ h1 h2 (by simp only [List.length_dropLast]; omega) h4 h5 (.inr (h6.resolve_left hne)) (fun k hk => h7 k (List.dropLast_subset _ hk)) h8, rfl⟩
 ·split at he
  ·cases he
   exact ⟨zBQ (by simp only; omega) (by simp only; omega) h3 h4 h5 h6 h7 h8, rfl⟩
  ·cases he
theorem zNc {l l' : Lin} (h : mayL l = true) (he : vN l = some l') : mayL l' = true ∧ l'.cells = l.cells := by
 obtain ⟨h1, h2, h3, h4, h5, h6, h7, h8⟩ := zAG h;unfold vN at he
 split at he
 ·rename_i hne
  cases he;exact ⟨zBQ h1 h2 (by simp only [List.length_dropLast]; omega) h4 h5 (.inr (h6.resolve_left hne)) (fun k hk => h7 k (List.dropLast_subset _ hk)) h8, rfl⟩
 ·split at he
  ·cases he
   exact ⟨zBQ h1 h2 h3 (Int.le_refl 0) (show (0 : Int) ≤ 3 by decide) (.inr rfl) h7 h8, rfl⟩
  ·split at he
   ·cases he
    exact ⟨zBQ (by simp only; omega) (by simp only; omega) h3 h4 h5 h6 h7 h8, rfl⟩
   ·cases he
theorem zMU {d : Doc} {i : Nat} {l l' : Lin} (hM : mayD d = true) (hl : d[i]? = some l) (h : mayL l' = true) (hc : l'.cells = l.cells) : mayD (d.set i l') = true ∧ ∀ j : Nat, j ≤ l.cells.length → isD (d.set i l') ⟨i, j⟩ = true := by
 obtain ⟨a1, a2, a3, a4⟩ := xZ.1 hM;have hi := (zK.1 hl).1;refine ⟨xZ.2 ⟨by simpa using a1, by simpa using a2, ?_, fun x hx => ?_⟩, fun j hj => zAL (l := l') (by rw [List.getElem?_set_self hi]) (by rw [hc]; exact hj)⟩
 ·rw [zEn hl, vD, vD, zBP, hc, ← zBP l, ← vD, ← vD, zDX hl]
  exact a3
 ·rcases List.mem_or_eq_of_mem_set hx with hx | rfl
  ·exact a4 x hx
  ·exact h
theorem zHo {d : Doc} {p : Ps} {r : Option Lin} {x : Doc × Ps × Int} (hM : mayD d = true) (hp : isD d p = true) (hr : ∀ l', r = some l' → mayL l' = true ∧ l'.cells = (xC d p).cells)
  (hx : (x.2.2 = 0 ∧ mayD x.1 = true ∧ isD x.1 x.2.1 = true) ∨ x.2.2 = 7 ∨ x.2.2 = 10) : ((putK d p r x).2.2 = 0 ∧ mayD (putK d p r x).1 = true ∧ isD (putK d p r x).1 (putK d p r x).2.1 = true) ∨ (putK d p r x).2.2 = 7 ∨ (putK d p r x).2.2 = 10 := by
 cases r with
 | none => exact hx
 | some l' =>
  obtain ⟨i, j, l, rfl, hl, hj, hml, he⟩ := uM hM hp;obtain ⟨h1, h2⟩ := hr l' rfl;rw [he] at h2;obtain ⟨k1, k2⟩ := zMU hM hl h1 h2;exact .inl ⟨rfl, by simpa [putK] using k1, by simpa [putK] using k2 j hj⟩
theorem zHp {d : Doc} {a b p : Ps} (h : jU d a b = true) (hp : p = a) : ((cutK d a b p).2.2 = 0 ∧ mayD (cutK d a b p).1 = true ∧ isD (cutK d a b p).1 (cutK d a b p).2.1 = true) ∨ (cutK d a b p).2.2 = 7 ∨ (cutK d a b p).2.2 = 10 := by
 subst hp;obtain ⟨hM, i, j, x, y, l, m, rfl, rfl, hl, hm, hp, hq, hij, hpq⟩ := vF h;unfold cutK kR;rw [if_pos h];exact .inl ⟨rfl, zFU hM hl hm hp hq hij hpq, zAL (d := zAb d ⟨i, x⟩ ⟨j, y⟩) (l := { l with cells := l.cells.take x ++ m.cells.drop y }) (by rw [zFV hl hm, if_neg (Nat.lt_irrefl _), if_pos rfl]) jB⟩
theorem zGX {s : St} (h : mayS s = true) (hr : RngS s) (t : ByteArray) : zAz (keyS s (vT s t)) := by
 obtain ⟨h1, _, h3, _, _⟩ := yX h;rw [zLZ h]
 split
 ·exact zEj (.inr rfl)
 ·split
  ·exact zEj (.inl rfl)
  ·obtain ⟨i, j, l, hp, hl, hj, hml, he⟩ := uM h1 h3
   refine zBo (zLp h1 h3 (zJH (zLW h hr) ?_));rw [he, hp];exact zJM (uV hml)
theorem zMX {s : St} (h : mayS s = true) : zAz (keyS s (zCc s)) := by
 obtain ⟨h1, _, h3, _, _⟩ := yX h;rw [zCJ h];refine zBo (zHo h1 h3 (fun l' hl' => ?_) (zMf h1 h3));obtain ⟨i, j, l, hp, hl, hj, hml, he⟩ := uM h1 h3
 split at hl'
 ·rw [he] at hl' ⊢
  exact zKg hml hl'
 ·cases hl'
theorem zGf {d : Doc} {p : Ps} (hM : mayD d = true) (hp : isD d p = true) : ((kK d p (-1)).2 = true → jU d (kK d p (-1)).1 p = true) ∧ ((kK d p 1).2 = true → jU d p (kK d p 1).1 = true) := by
 obtain ⟨i, j, l, rfl, hl, hj, _, _⟩ := uM hM hp;have hi := (zK.1 hl).1;constructor
 ·intro h
  rw [zKS hl hj] at h ⊢
  by_cases h0 : 0 < j
  ·rw [if_pos h0, show ((j : Int) - 1) = ((j - 1 : Nat) : Int) by omega]
   exact zAr hM hl hl qD hj (zC _) (fun _ => by omega)
  ·rw [if_neg h0] at h ⊢
   by_cases h1 : i = 0
   ·rw [if_pos h1] at h; cases h
   ·rw [if_neg h1]
    obtain ⟨n, rfl⟩ : ∃ n, i = n + 1 := ⟨i - 1, by omega⟩;obtain ⟨m, hm⟩ : ∃ m, d[n]? = some m := ⟨d[n]'qD, List.getElem?_eq_getElem qD⟩;simp only [Nat.add_sub_cancel, zGo hm];rw [show (((n + 1 : Nat) : Int) - 1) = (n : Int) by omega];exact zAr hM hm hl (zC _) hj qD (fun e => by omega)
 ·intro h
  rw [zJZ hl hj] at h ⊢
  by_cases h0 : j < l.cells.length
  ·rw [if_pos h0, show ((j : Int) + 1) = ((j + 1 : Nat) : Int) by omega]
   exact zAr hM hl hl hj qD (zC _) (fun _ => by omega)
  ·rw [if_neg h0] at h ⊢
   by_cases h1 : i + 1 < d.length
   ·rw [if_pos h1]
    obtain ⟨m, hm⟩ : ∃ m, d[i + 1]? = some m := ⟨d[i + 1]'h1, List.getElem?_eq_getElem h1⟩;rw [show ((i : Int) + 1) = ((i + 1 : Nat) : Int) by omega];exact zAr hM hl hm hj (Nat.zero_le _) qD (fun e => by omega)
   ·rw [if_neg h1] at h; cases h
theorem zNh {s : St} (h : mayS s = true) : zAz (keyS s (uQ s)) := by
 obtain ⟨h1, _, h3, _, _⟩ := yX h;rw [zCJ h];unfold uQ
 split
 ·refine zBo (zHo h1 h3 (fun l' hl' => ?_) ?_)
  ·obtain ⟨i, j, l, hp, hl, hj, hml, he⟩ := uM h1 h3
   split at hl'
   ·rw [he] at hl' ⊢
    exact zNc hml hl'
   ·cases hl'
  ·split
   ·rename_i h5
    exact zHp ((zGf h1 h3).1 h5) rfl
   ·exact .inr (.inl rfl)
 ·exact zBo (.inl ⟨rfl, h1, h3⟩)
theorem zMy {s : St} (h : mayS s = true) : zAz (keyS s (zAw s)) := by
 obtain ⟨h1, _, h3, _, _⟩ := yX h;rw [zCJ h];unfold zAw
 split
 ·refine zBo ?_
  split
  ·rename_i h5
   exact zHp ((zGf h1 h3).2 h5) rfl
  ·exact .inr (.inl rfl)
 ·exact zBo (.inl ⟨rfl, h1, h3⟩)
def yE (k : Int) (l : Lin) : Option Lin := if l.lists ≠ [] ∨ l.kind = k then none else some { l with kind := k }
def vG (l : Lin) : Option Lin := if l.lists ≠ [] then (if l.lists.length = 6 then none else some { l with lists := l.lists ++ [xE l.lists] }) else if l.quote = 6 then none else some { l with quote := l.quote + 1 }
def xW (k : Int) (l : Lin) : Option Lin := if l.lists = [] then some { l with lists := [k], kind := 0 } else if xE l.lists = k then none else some { l with lists := l.lists.dropLast ++ [k] }
def kJ (k : Int) (l : Lin) : Bool := decide (l.lists ≠ []) && decide (xE l.lists = k)
def selI (s : St) (i : Nat) : Bool := decide ((qV s).1.line ≤ i) && decide ((i : Int) ≤ (qV s).2.line)
def xQ (f : Lin → Option Lin) (s : St) (k : Nat) : Doc := s.lines.mapIdx fun i l => if (selI s i && decide (i < k)) = true then (f l).getD l else l
def zCa (f : Lin → Option Lin) (s : St) : Doc := xQ f s s.lines.length
def yS (p : Lin → Bool) (s : St) (k : Nat) : Bool := (List.range k).any fun i => selI s i && p (s.lines.getD i default)
def vC (p : Lin → Bool) (s : St) (k : Nat) : Bool := (List.range k).all fun i => !selI s i || p (s.lines.getD i default)
def kI (f : Lin → Option Lin) (s : St) : St × Int := if mayS s = true then (if yS (fun l => (f l).isSome) s s.lines.length = true then (⟨zCa f s, s.anc, s.foc, 0, 0⟩, 0) else (noS, 7)) else (noS, 1)
def xT (k : Int) (s : St) : Bool × Bool := if mayS s = true then (vC (kJ k) s s.lines.length, yS (kJ k) s s.lines.length) else (false, false)
def yL (k : Int) (s : St) : St × Int := if k < 0 ∨ 3 < k then (noS, 1) else kI (yE k) s
def uI (k : Int) (s : St) : St × Int := if k ≠ 0 ∧ k ≠ 1 then (noS, 1) else if (xT k s).1 = true then kI kM s else kI (xW k) s
def xF (s : St) : Option Int := if mayS s = true then (if vC (fun l => decide (l.lists = []) && decide (l.kind = (xC s.lines (qV s).1).kind)) s s.lines.length = true then some (xC s.lines (qV s).1).kind else none) else none
theorem uU (f : Lin → Option Lin) (s : St) (k : Nat) : (xQ f s k).length = s.lines.length := by unfold xQ; simp
theorem zBf {f : Lin → Option Lin} {s : St} {k i : Nat} {l : Lin} (hl : s.lines[i]? = some l) : (xQ f s k)[i]? = some (if (selI s i && decide (i < k)) = true then (f l).getD l else l) := by
 unfold xQ;rw [List.getElem?_mapIdx, hl]
 rfl
theorem zKN {f : Lin → Option Lin} {s : St} {k : Nat} {l : Lin} (hl : s.lines[k]? = some l) : xQ f s (k + 1) = if selI s k = true then (xQ f s k).set k ((f l).getD l) else xQ f s k := by
 apply List.ext_getElem?
 intro i;have hk := (zK.1 hl).1
 by_cases hi : i < s.lines.length
 ·obtain ⟨m, hm⟩ : ∃ m, s.lines[i]? = some m := ⟨s.lines[i], List.getElem?_eq_getElem hi⟩
  rw [zBf hm]
  by_cases e : i = k
  ·subst e
   rw [hl] at hm;cases hm
   by_cases hs : selI s i = true
   ·rw [if_pos hs, List.getElem?_set_self (by rw [uU]; exact hk)]
    simp [hs]
   ·rw [if_neg hs, zBf hl]
    simp [hs]
  ·have h1 : decide (i < k + 1) = decide (i < k) := by
    by_cases h : i < k
    ·simp [h]; omega
    ·simp [h]; omega
   by_cases hs : selI s k = true
   ·rw [if_pos hs, List.getElem?_set_ne qD, zBf hm, h1]
   ·rw [if_neg hs, zBf hm, h1]
 ·rw [List.getElem?_eq_none (by rw [uU]; omega)]
  split
  ·rw [List.getElem?_eq_none (by rw [List.length_set, uU]; omega)]
  ·rw [List.getElem?_eq_none (by rw [uU]; omega)]
theorem zMK (p : Lin → Bool) {s : St} {k : Nat} {l : Lin} (hl : s.lines[k]? = some l) : yS p s (k + 1) = (yS p s k || (selI s k && p l)) := by
 unfold yS;rw [List.range_succ, List.any_append];simp [List.getD_eq_getElem?_getD, hl]
theorem zMN (p : Lin → Bool) {s : St} {k : Nat} {l : Lin} (hl : s.lines[k]? = some l) : vC p s (k + 1) = (vC p s k && (!selI s k || p l)) := by
 unfold vC;rw [List.range_succ, List.all_append];simp [List.getD_eq_getElem?_getD, hl]
def zBv (f : Lin → Option Lin) : Prop := ∀ l l', mayL l = true → f l = some l' → mayL l' = true ∧ l'.cells = l.cells
theorem zLX {f : Lin → Option Lin} (hf : zBv f) {s : St} (hm : mayS s = true) (k : Nat) : mayS ⟨xQ f s k, s.anc, s.foc, 0, 0⟩ = true := by
 obtain ⟨hM, hA, hF, _⟩ := yK hm;obtain ⟨h1, h2, h3, h4⟩ := xZ.1 hM
 have hc : ∀ (i : Nat) (l : Lin), s.lines[i]? = some l → ∃ l' : Lin, (xQ f s k)[i]? = some l' ∧ mayL l' = true ∧ l'.cells = l.cells := fun i l hl => by
  have hml := h4 l (yI hl);refine ⟨_, zBf hl, ?_⟩
  split
  ·cases h : f l with
   | none => exact ⟨hml, rfl⟩
   | some l' => exact hf l l' hml h
  ·exact ⟨hml, rfl⟩
 have hsz : flat (xQ f s k) = flat s.lines := by
  have e : (xQ f s k).map (·.cells) = s.lines.map (·.cells) := by
   apply List.ext_getElem?
   intro i;rw [List.getElem?_map, List.getElem?_map];cases hl : s.lines[i]? with
   | none =>
    rw [List.getElem?_eq_none (by rw [uU]; exact List.getElem?_eq_none_iff.1 hl)]
   | some l =>
    obtain ⟨l', e1, _, e2⟩ := hc i l hl;rw [e1];simp [e2]
  unfold flat;rw [List.flatMap_def, List.flatMap_def, e]
 have hM' : mayD (xQ f s k) = true := by
  refine xZ.2 ⟨by rw [uU]; exact h1, by rw [uU]; exact h2, by rw [hsz]; exact h3, fun l' hl' => ?_⟩;obtain ⟨i, hi⟩ := List.getElem?_of_mem hl'
  obtain ⟨l, hl⟩ : ∃ l, s.lines[i]? = some l := by
   have := (zK.1 hi).1;rw [uU] at this;exact ⟨s.lines[i], List.getElem?_eq_getElem this⟩
  obtain ⟨l2, e1, e2, _⟩ := hc i l hl;rw [hi] at e1;cases e1;exact e2
 have hI : ∀ p, isD s.lines p = true → isD (xQ f s k) p = true := fun p hp => by
  obtain ⟨i, j, l, rfl, hl, hj⟩ := zBS hp;obtain ⟨l', e1, _, e2⟩ := hc i l hl;exact zAL e1 (by rw [e2]; exact hj)
 unfold mayS;simp only [hM', hI _ hA, hI _ hF, Bool.true_and]
 decide
theorem zIG {k : Int} (hk : 0 ≤ k ∧ k ≤ 3) : zBv (yE k) := fun l l' hm h => by
 unfold yE at h
 split at h
 ·cases h
 ·rename_i h2
  cases h;refine ⟨?_, rfl⟩;unfold mayL at hm ⊢;simp only [Bool.and_eq_true, Bool.or_eq_true, decide_eq_true_eq, List.all_eq_true] at hm ⊢;obtain ⟨⟨⟨⟨⟨⟨⟨a1, a2⟩, a3⟩, a4⟩, a5⟩, a6⟩, a7⟩, a8⟩ := hm;have : l.lists = [] := by simpa using fun e => h2 (.inl e)
  exact ⟨⟨⟨⟨⟨⟨⟨a1, a2⟩, a3⟩, hk.1⟩, hk.2⟩, .inl (by first | exact this | simp [this])⟩, a7⟩, a8⟩
theorem zBg {l : Lin} (h : 0 ≤ l.quote ∧ l.quote ≤ 6 ∧ l.lists.length ≤ 6 ∧ 0 ≤ l.kind ∧ l.kind ≤ 3 ∧ (l.lists = [] ∨ l.kind = 0) ∧ (∀ k ∈ l.lists, k = 0 ∨ k = 1) ∧ kC l.cells = true) : mayL l = true := by
 obtain ⟨h1, h2, h3, h4, h5, h6, h7, h8⟩ := h;unfold mayL;simp only [Bool.and_eq_true, Bool.or_eq_true, decide_eq_true_eq, List.all_eq_true];exact ⟨⟨⟨⟨⟨⟨⟨h1, h2⟩, h3⟩, h4⟩, h5⟩, h6⟩, h7⟩, h8⟩
theorem zLm {l : List Int} (h : l ≠ []) : xE l ∈ l := by
 unfold xE;rw [List.getLastD_eq_getLast?, List.getLast?_eq_some_getLast h];exact List.getLast_mem h
theorem zID : zBv vG := fun l l' hm h => by
 obtain ⟨h1, h2, h3, h4, h5, h6, h7, h8⟩ := zAG hm;unfold vG at h
 split at h
 ·rename_i hn
  split at h
  ·cases h
  ·rename_i h9
   cases h;refine ⟨zBg ⟨h1, h2, by simp; omega, h4, h5, .inr (h6.resolve_left hn), fun k hk => ?_, h8⟩, rfl⟩;rcases List.mem_append.1 hk with hk | hk
   ·exact h7 k hk
   ·rw [List.mem_singleton.1 hk]
    exact h7 _ (zLm hn)
 ·split at h
  ·cases h
  ·rename_i hn h9
   cases h;exact ⟨zBg ⟨by show 0 ≤ l.quote + 1; omega, by show l.quote + 1 ≤ 6; omega, h3, h4, h5, h6, h7, h8⟩, rfl⟩
theorem zKo {k : Int} (hk : k = 0 ∨ k = 1) : zBv (xW k) := fun l l' hm h => by
 obtain ⟨h1, h2, h3, h4, h5, h6, h7, h8⟩ := zAG hm;unfold xW at h
 split at h
 ·cases h
  refine ⟨zBg ⟨h1, h2, (by show 1 ≤ 6; omega), Int.le_refl 0, (by decide : (0 : Int) ≤ 3), .inr rfl, fun x hx => ?_, h8⟩, rfl⟩;rw [List.mem_singleton.1 hx];exact hk
 ·rename_i hn
  split at h
  ·cases h
  ·cases h
   refine ⟨zBg ⟨h1, h2, ?_, h4, h5, .inr (h6.resolve_left hn), fun x hx => ?_, h8⟩, rfl⟩
   ·show (l.lists.dropLast ++ [k]).length ≤ 6
    have := List.length_pos_iff.2 hn
    simp
    omega
   ·rcases List.mem_append.1 hx with hx | hx
    ·exact h7 x ((List.dropLast_sublist _).subset hx)
    ·rw [List.mem_singleton.1 hx]
     exact hk
theorem zEO : zBv kM := fun l l' hm h => by
 obtain ⟨h1, h2, h3, h4, h5, h6, h7, h8⟩ := zAG hm;unfold kM at h
 split at h
 ·rename_i hn
  cases h;exact ⟨zBg ⟨h1, h2, by show l.lists.dropLast.length ≤ 6; rw [List.length_dropLast]; omega, h4, h5, .inr (h6.resolve_left hn), fun x hx => h7 x ((List.dropLast_sublist _).subset hx), h8⟩, rfl⟩
 ·split at h
  ·cases h
   exact ⟨zBg ⟨by show 0 ≤ l.quote - 1; omega, by show l.quote - 1 ≤ 6; omega, h3, h4, h5, h6, h7, h8⟩, rfl⟩
  ·cases h
def zCS (s : St) (x : St × Int) : Prop := (x.2 = 0 ∧ mayS x.1 = true ∧ x.1.anc = s.anc ∧ x.1.foc = s.foc ∧ x.1.on = 0 ∧ x.1.off = 0) ∨ (x.1 = noS ∧ (x.2 = 7 ∨ x.2 = 1))
theorem zBT {f : Lin → Option Lin} (hf : zBv f) {s : St} (hm : mayS s = true) : zCS s (kI f s) := by
 unfold kI;rw [if_pos hm]
 split
 ·exact .inl ⟨rfl, zLX hf hm _, rfl, rfl, rfl, rfl⟩
 ·exact .inr ⟨rfl, .inl rfl⟩
theorem zLt {s : St} (hm : mayS s = true) (k : Int) : zCS s (yL k s) := by
 unfold yL
 split
 ·exact .inr ⟨rfl, .inr rfl⟩
 ·exact zBT (zIG qD) hm
theorem zMq {s : St} (hm : mayS s = true) (k : Int) : zCS s (uI k s) := by
 unfold uI
 split
 ·exact .inr ⟨rfl, .inr rfl⟩
 ·rename_i h
  split
  ·exact zBT zEO hm
  ·exact zBT (zKo qD) hm
structure Cmd where
 name : List UInt8
 input : List UInt8
 data : Int
 deriving DecidableEq, Inhabited
def cmds : List Cmd := [
 ⟨[105, 110, 115, 101, 114, 116, 84, 101, 120, 116], [105, 110, 115, 101, 114, 116, 84, 101, 120, 116], 1⟩,
 ⟨[105, 110, 115, 101, 114, 116, 76, 105, 110, 101, 66, 114, 101, 97, 107], [105, 110, 115, 101, 114, 116, 76, 105, 110, 101, 66, 114, 101, 97, 107], 0⟩,
 ⟨[105, 110, 115, 101, 114, 116, 80, 97, 114, 97, 103, 114, 97, 112, 104], [105, 110, 115, 101, 114, 116, 80, 97, 114, 97, 103, 114, 97, 112, 104], 0⟩,
 ⟨[100, 101, 108, 101, 116, 101], [100, 101, 108, 101, 116, 101, 67, 111, 110, 116, 101, 110, 116, 66, 97, 99, 107, 119, 97, 114, 100], 0⟩,
 ⟨[102, 111, 114, 119, 97, 114, 100, 68, 101, 108, 101, 116, 101], [100, 101, 108, 101, 116, 101, 67, 111, 110, 116, 101, 110, 116, 70, 111, 114, 119, 97, 114, 100], 0⟩,
 ⟨[98, 111, 108, 100], [102, 111, 114, 109, 97, 116, 66, 111, 108, 100], 0⟩,
 ⟨[105, 116, 97, 108, 105, 99], [102, 111, 114, 109, 97, 116, 73, 116, 97, 108, 105, 99], 0⟩,
 ⟨[117, 110, 100, 101, 114, 108, 105, 110, 101], [102, 111, 114, 109, 97, 116, 85, 110, 100, 101, 114, 108, 105, 110, 101], 0⟩,
 ⟨[115, 116, 114, 105, 107, 101, 84, 104, 114, 111, 117, 103, 104], [102, 111, 114, 109, 97, 116, 83, 116, 114, 105, 107, 101, 84, 104, 114, 111, 117, 103, 104], 0⟩,
 ⟨[99, 114, 101, 97, 116, 101, 76, 105, 110, 107], [105, 110, 115, 101, 114, 116, 76, 105, 110, 107], 1⟩,
 ⟨[117, 110, 108, 105, 110, 107], [102, 111, 114, 109, 97, 116, 85, 110, 108, 105, 110, 107], 0⟩,
 ⟨[114, 101, 109, 111, 118, 101, 70, 111, 114, 109, 97, 116], [102, 111, 114, 109, 97, 116, 82, 101, 109, 111, 118, 101], 0⟩,
 ⟨[102, 111, 114, 109, 97, 116, 66, 108, 111, 99, 107], [102, 111, 114, 109, 97, 116, 66, 108, 111, 99, 107], 1⟩,
 ⟨[105, 110, 100, 101, 110, 116], [102, 111, 114, 109, 97, 116, 73, 110, 100, 101, 110, 116], 0⟩,
 ⟨[111, 117, 116, 100, 101, 110, 116], [102, 111, 114, 109, 97, 116, 79, 117, 116, 100, 101, 110, 116], 0⟩,
 ⟨[105, 110, 115, 101, 114, 116, 85, 110, 111, 114, 100, 101, 114, 101, 100, 76, 105, 115, 116], [105, 110, 115, 101, 114, 116, 85, 110, 111, 114, 100, 101, 114, 101, 100, 76, 105, 115, 116], 0⟩,
 ⟨[105, 110, 115, 101, 114, 116, 79, 114, 100, 101, 114, 101, 100, 76, 105, 115, 116], [105, 110, 115, 101, 114, 116, 79, 114, 100, 101, 114, 101, 100, 76, 105, 115, 116], 0⟩]
theorem zGQ : cmds.length = 17 := rfl
def kF (name : List UInt8) : Option Nat := cmds.findIdx? fun c => decide (c.name.map lowB = name.map lowB)
theorem zBd {name : List UInt8} {k : Nat} (h : kF name = some k) : k < 17 := by
 have := List.findIdx?_eq_some_iff_getElem.1 h;exact this.1
def kD (a : List UInt8) : List UInt8 := if 1 < a.length ∧ a.head? = some 60 ∧ a.getLast? = some 62 then (a.drop 1).dropLast else a
def zCd (a : List UInt8) : Option Int :=
 if (kD a).map lowB = [112] then some 0 else if (kD a).map lowB = [104, 49] then some 1 else if (kD a).map lowB = [104, 50] then some 2 else if (kD a).map lowB = [104, 51] then some 3 else none
def uZ (s : St) (a : List UInt8) : St × Int := match zCd a with | some k => yL k s | none => (noS, 1)
def bitQ (k : Nat) : Int := if k = 5 then 1 else if k = 6 then 2 else if k = 7 then 4 else if k = 8 then 8 else 0
def doQ (s : St) (k : Nat) (a : List UInt8) : St × Int :=
 if k = 0 then keyS s (vT s ⟨a.toArray⟩) else if k = 1 then keyS s (vT s ⟨#[10]⟩) else if k = 2 then keyS s (zCc s) else if k = 3 then keyS s (uQ s) else if k = 4 then keyS s (zAw s)
 else if k ≤ 8 then vS s (bitQ k) else if k = 9 then xI s (zBs s a) else if k = 10 then xI s (uL s) else if k = 11 then xI s (zBm s)
 else if k = 12 then uZ s a else if k = 13 then kI vG s else if k = 14 then kI kM s else uI ((k : Int) - 15) s
def runQ (s : St) (name a : List UInt8) : St × Int := match kF name with | some k => doQ s k a | none => (noS, 2)
def zAJ (s : St) (name : List UInt8) : Bool := match kF name with | some k => if 15 ≤ k then (xT ((k : Int) - 15) s).1 else hasS s (bitQ k) | none => false
def uF (s : St) (name : List UInt8) : Bool := match kF name with
 | some k => if k = 12 then mayS s && (xF s).isNone else if 15 ≤ k then (xT ((k : Int) - 15) s).2 && !(xT ((k : Int) - 15) s).1 else yY s (bitQ k)
 | none => false
def DoOn (x : St × Int) : Prop := (x.2 = 0 ∧ mayS x.1 = true ∧ RngS x.1) ∨ (x.1 = noS ∧ (x.2 = 1 ∨ x.2 = 7 ∨ x.2 = 10))
theorem DoOn.of_key {x : St × Int} (h : zAz x) : DoOn x := by
 rcases h with ⟨h0, D, p, h1, h2, h3⟩ | ⟨h1, h2⟩
 ·exact .inl ⟨h0, by rw [h1]; exact zKB h2 h3, by rw [h1]; exact ⟨⟨Int.le_refl 0, (by decide : (0 : Int) ≤ 15)⟩, ⟨Int.le_refl 0, (by decide : (0 : Int) ≤ 15)⟩⟩⟩
 ·exact .inr ⟨h1, h2.elim (fun h => .inr (.inl h)) (fun h => .inr (.inr h))⟩
theorem DoOn.of_act {s : St} {x : St × Int} (h : zAx s x) : DoOn x := by
 rcases h with ⟨h0, h1, h2⟩ | ⟨h1, h2⟩
 ·exact .inl ⟨h0, h1.may, h2⟩
 ·exact .inr ⟨h1, h2.elim (fun h => .inr (.inl h)) (fun h => .inl h)⟩
theorem DoOn.of_blk {s : St} {x : St × Int} (h : zCS s x) : DoOn x := by
 rcases h with ⟨h0, h1, _, _, h2, h3⟩ | ⟨h1, h2⟩
 ·exact .inl ⟨h0, h1, by rw [RngS, h2, h3]; exact ⟨⟨Int.le_refl 0, (by decide : (0 : Int) ≤ 15)⟩, ⟨Int.le_refl 0, (by decide : (0 : Int) ≤ 15)⟩⟩⟩
 ·exact .inr ⟨h1, h2.elim (fun h => .inr (.inl h)) (fun h => .inl h)⟩
theorem zNP {s : St} (hm : mayS s = true) (hr : RngS s) (k : Nat) (a : List UInt8) : DoOn (doQ s k a) := by
 by_cases h0 : k = 0
 ·rw [doQ, if_pos h0]
  exact DoOn.of_key (zGX hm hr ⟨a.toArray⟩)
 by_cases h1 : k = 1
 ·rw [doQ, if_neg h0, if_pos h1]
  exact DoOn.of_key (zGX hm hr ⟨#[10]⟩)
 by_cases h2 : k = 2
 ·rw [doQ, if_neg h0, if_neg h1, if_pos h2]
  exact DoOn.of_key (zMX hm)
 by_cases h3 : k = 3
 ·rw [doQ, if_neg h0, if_neg h1, if_neg h2, if_pos h3]
  exact DoOn.of_key (zNh hm)
 by_cases h4 : k = 4
 ·rw [doQ, if_neg h0, if_neg h1, if_neg h2, if_neg h3, if_pos h4]
  exact DoOn.of_key (zMy hm)
 by_cases h5 : k ≤ 8
 ·rw [doQ, if_neg h0, if_neg h1, if_neg h2, if_neg h3, if_neg h4, if_pos h5]
  have h9 : four (bitQ k) = true := by
   have : k = 5 ∨ k = 6 ∨ k = 7 ∨ k = 8 := by omega
   rcases this with rfl | rfl | rfl | rfl <;> decide
  exact DoOn.of_act (zJP hm hr h9)
 by_cases h6 : k = 9
 ·rw [doQ, if_neg h0, if_neg h1, if_neg h2, if_neg h3, if_neg h4, if_neg h5, if_pos h6]
  exact DoOn.of_act (zLS hm a)
 by_cases h7 : k = 10
 ·rw [doQ, if_neg h0, if_neg h1, if_neg h2, if_neg h3, if_neg h4, if_neg h5, if_neg h6, if_pos h7]
  exact DoOn.of_act (zJO hm)
 by_cases h8 : k = 11
 ·rw [doQ, if_neg h0, if_neg h1, if_neg h2, if_neg h3, if_neg h4, if_neg h5, if_neg h6, if_neg h7, if_pos h8]
  exact DoOn.of_act (zKH hm)
 by_cases h9 : k = 12
 ·rw [doQ, if_neg h0, if_neg h1, if_neg h2, if_neg h3, if_neg h4, if_neg h5, if_neg h6, if_neg h7, if_neg h8, if_pos h9]
  unfold uZ;cases zCd a with
  | none => exact .inr ⟨rfl, .inl rfl⟩
  | some q => exact DoOn.of_blk (zLt hm q)
 by_cases h10 : k = 13
 ·rw [doQ, if_neg h0, if_neg h1, if_neg h2, if_neg h3, if_neg h4, if_neg h5, if_neg h6, if_neg h7, if_neg h8, if_neg h9, if_pos h10]
  exact DoOn.of_blk (zBT zID hm)
 by_cases h11 : k = 14
 ·rw [doQ, if_neg h0, if_neg h1, if_neg h2, if_neg h3, if_neg h4, if_neg h5, if_neg h6, if_neg h7, if_neg h8, if_neg h9, if_neg h10, if_pos h11]
  exact DoOn.of_blk (zBT zEO hm)
 rw [doQ, if_neg h0, if_neg h1, if_neg h2, if_neg h3, if_neg h4, if_neg h5, if_neg h6, if_neg h7, if_neg h8, if_neg h9, if_neg h10, if_neg h11];exact DoOn.of_blk (zMq hm _)
theorem zNd {b : Int} (h : four b = true) : (b == 0) = false := by rcases zAX h with rfl | rfl | rfl | rfl <;> rfl
theorem zMw {s : St} {b : Int} (hm : mayS s = true) (hb : four b = true) (ho : ¬ s.anc = s.foc) : hasS s b = allL (selS s) b := by
 unfold hasS yH;rw [if_pos hm, if_neg ho, zNd hb];exact zMJ hb fun c hc => zFY (yK hm).1 c hc
structure Twice (s a : St) (b : Int) (B C : St) : Prop where
 okB : vS a b = (B, 0)
 okC : vS B b = (C, 0)
 same : C = a
 hasA : hasS a b = !hasS s b
 hasB : hasS B b = !hasS a b
 mixA : yY a b = false
 mixB : yY B b = false
 mayA : mayS a = true
 mayB : mayS B = true
 anc : a.anc = s.anc ∧ a.foc = s.foc
theorem zLA {k : Nat} {c : Cmd} (h : cmds[k]? = some c) : kF c.name = some k := by
 have hk : k < 17 := (zK.1 h).1;have H : ∀ k : Fin 17, kF (cmds[k.val]'k.isLt).name = some k.val := by decide +kernel
 have := H ⟨k, hk⟩;obtain ⟨h1, h2⟩ := zK.1 h;rw [← h2];exact this
theorem zLr {s : St} (hm : mayS s = true) {b : Int} (hb : four b = true ∨ b = 0) : (hasS s b && yY s b) = false := by
 rcases hb with hb | rfl
 ·by_cases hc : s.anc = s.foc
  ·have : yY s b = false := by unfold yY; rw [decide_eq_true hc]; simp
   rw [this, Bool.and_false]
  ·rw [zMw hm hb hc]
   unfold yY;cases allL (selS s) b <;> simp
 ·unfold hasS
  simp
theorem zLM (k : Nat) : four (bitQ k) = true ∨ bitQ k = 0 := by
 unfold bitQ
 split
 ·exact .inl qW
 split
 ·exact .inl qW
 split
 ·exact .inl qW
 split
 ·exact .inl qW
 ·exact .inr rfl
theorem zJc {s : St} (hm : mayS s = true) (name : List UInt8) : (zAJ s name && uF s name) = false := by
 unfold zAJ uF;cases kF name with
 | none => rfl
 | some k =>
  simp only
  by_cases h12 : k = 12
  ·subst h12
   rw [if_neg qD, if_pos rfl];have : hasS s (bitQ 12) = false := by unfold hasS; rw [show (bitQ 12 == 0) = true by decide]; rfl
   rw [this, Bool.false_and]
  ·rw [if_neg h12]
   by_cases h15 : 15 ≤ k
   ·rw [if_pos h15, if_pos h15]
    cases (xT ((k : Int) - 15) s).1 <;> simp
   ·rw [if_neg h15, if_neg h15]
    exact zLr hm (zLM k)
theorem zGH {b : UInt8} (h : b.toNat < 128) : (lowB b).toNat < 128 := by
 unfold lowB
 split
 ·rename_i h1
  have : (b + 32).toNat = b.toNat + 32 := by
   rw [UInt8.toNat_add]
   show (b.toNat + 32) % 256 = _
   omega
  omega
 ·exact h
theorem zNb {c : List UInt8} (hc : ∀ b ∈ c, b.toNat < 128) : Lib.mapD lowR c = c.map lowB :=
 (zCF c.length c (c.map lowB) (zC _) (fun b hb => by
  obtain ⟨x, hx, rfl⟩ := List.mem_map.1 hb;exact zGH (hc x hx))).2 rfl
theorem zNx {c : List UInt8} (hc : ∀ b ∈ c, b.toNat < 128) (name : List UInt8) : Lib.mapD lowR c = Lib.mapD lowR name ↔ c.map lowB = name.map lowB := by
 rw [zNb hc]
 have h := zCF name.length name (c.map lowB) (zC _) (fun b hb => by
  obtain ⟨x, hx, rfl⟩ := List.mem_map.1 hb;exact zGH (hc x hx))
 exact ⟨fun e => (h.1 e.symm).symm, fun e => (h.2 e.symm).symm⟩
theorem zKA : ∀ c ∈ cmds, ∀ b ∈ c.name, b.toNat < 128 := by decide +kernel
def kB : List (List UInt8 × Int) := [
 ([100, 105, 118], 1),
 ([112], 2),
 ([104, 49], 3),
 ([104, 50], 4),
 ([104, 51], 5),
 ([98, 108, 111, 99, 107, 113, 117, 111, 116, 101], 6),
 ([117, 108], 7),
 ([111, 108], 8),
 ([108, 105], 9),
 ([97], 10),
 ([98], 11),
 ([115, 116, 114, 111, 110, 103], 11),
 ([105], 12),
 ([101, 109], 12),
 ([117], 13),
 ([105, 110, 115], 13),
 ([115], 14),
 ([115, 116, 114, 105, 107, 101], 14),
 ([100, 101, 108], 14),
 ([115, 112, 97, 110], 15),
 ([98, 114], 16)]
def tagF (name : List UInt8) : Option Int := (kB.find? fun x => decide (x.1 = name.map lowB)).map (·.2)
theorem zNp {n : List UInt8} {t : Int} (h : (n, t) ∈ kB) {name : List UInt8} (hn : n = name.map lowB) : tagF name = some t := by
 unfold tagF;rw [← hn];have H : ∀ x ∈ kB, (kB.find? fun y => decide (y.1 = x.1)).map (·.2) = some x.2 := by decide +kernel
 exact H _ h
theorem zMa {name : List UInt8} {t : Int} (h : tagF name = some t) : ∃ n, (n, t) ∈ kB ∧ n = name.map lowB := by
 unfold tagF at h;obtain ⟨⟨n, t'⟩, h1, h2⟩ := Option.map_eq_some_iff.1 h;simp only at h2;subst h2;have h3 := List.find?_some h1;exact ⟨n, List.mem_of_find?_eq_some h1, of_decide_eq_true h3⟩
theorem zMs (a : List UInt8) : zCd a = match tagF (kD a) with | some t => if 2 ≤ t ∧ t ≤ 5 then some (t - 2) else none | none => none := by
 cases h : tagF (kD a) with
 | some t =>
  obtain ⟨n, h1, h2⟩ := zMa h;have H : ∀ x ∈ kB, (if x.1 = [112] then some 0 else if x.1 = [104, 49] then some 1 else if x.1 = [104, 50] then some 2 else if x.1 = [104, 51] then some (3 : Int) else none) = if 2 ≤ x.2 ∧ x.2 ≤ 5 then some (x.2 - 2) else none := by decide +kernel
  unfold zCd;rw [← h2];exact H _ h1
 | none =>
  have hx : ∀ x ∈ kB, ¬ x.1 = (kD a).map lowB := fun x hx e => by
   have := zNp (n := x.1) (t := x.2) hx e;rw [h] at this;cases this
  unfold zCd;rw [if_neg (fun e => hx ([112], 2) qW e.symm), if_neg (fun e => hx ([104, 49], 3) qW e.symm), if_neg (fun e => hx ([104, 50], 4) qW e.symm), if_neg (fun e => hx ([104, 51], 5) qW e.symm)]
theorem zAd {s : St} {i j : Nat} (h1 : (qV s).1.line = (i : Int)) (h2 : (qV s).2.line = (j : Int)) (k : Nat) : selI s k = (decide (i ≤ k) && decide (k ≤ j)) := by
 unfold selI;rw [h1, h2]
 congr 1
 ·exact decide_eq_decide.2 qD
 ·exact decide_eq_decide.2 qD
theorem zJR {s : St} {i j : Nat} (h1 : (qV s).1.line = (i : Int)) (h2 : (qV s).2.line = (j : Int)) (f : Lin → Option Lin) : xQ f s i = s.lines := by
 apply List.ext_getElem?
 intro n;unfold xQ;rw [List.getElem?_mapIdx];cases s.lines[n]? with
 | none => rfl
 | some l =>
  simp only [Option.map_some];rw [zAd h1 h2, if_neg]
  simp
  omega
theorem zLY {s : St} {i j : Nat} (h1 : (qV s).1.line = (i : Int)) (h2 : (qV s).2.line = (j : Int)) (hj : j < s.lines.length) (f : Lin → Option Lin) : xQ f s (j + 1) = zCa f s := by
 apply List.ext_getElem?
 intro n;unfold zCa xQ;rw [List.getElem?_mapIdx, List.getElem?_mapIdx];cases h : s.lines[n]? with
 | none => rfl
 | some l =>
  have hn := (zK.1 h).1;simp only [Option.map_some, Option.some.injEq];rw [zAd h1 h2]
  have : (decide (i ≤ n) && decide (n ≤ j) && decide (n < j + 1)) = (decide (i ≤ n) && decide (n ≤ j) && decide (n < s.lines.length)) := by
   rw [decide_eq_true hn]
   by_cases h3 : n ≤ j
   ·rw [decide_eq_true h3, decide_eq_true (show n < j + 1 by omega)]
   ·rw [decide_eq_false h3]; simp
  rw [this]
theorem zLP {s : St} {i j : Nat} (h1 : (qV s).1.line = (i : Int)) (h2 : (qV s).2.line = (j : Int)) (p : Lin → Bool) : yS p s i = false := by
 unfold yS;rw [List.any_eq_false];intro k hk;rw [List.mem_range] at hk;rw [zAd h1 h2, decide_eq_false qD]
 simp
theorem zLR {s : St} {i j : Nat} (h1 : (qV s).1.line = (i : Int)) (h2 : (qV s).2.line = (j : Int)) (p : Lin → Bool) : vC p s i = true := by
 unfold vC;rw [List.all_eq_true];intro k hk;rw [List.mem_range] at hk;rw [zAd h1 h2, decide_eq_false qD]
 simp
theorem zGU {s : St} {i j : Nat} (h1 : (qV s).1.line = (i : Int)) (h2 : (qV s).2.line = (j : Int)) (p : Lin → Bool) : ∀ n, yS p s (j + 1 + n) = yS p s (j + 1)
 | 0 => rfl
 | n + 1 => by
  rw [← zGU h1 h2 p n];unfold yS;rw [show j + 1 + (n + 1) = (j + 1 + n) + 1 from rfl, List.range_succ, List.any_append];simp only [List.any_cons, List.any_nil, Bool.or_false];rw [zAd h1 h2, decide_eq_false (show ¬ j + 1 + n ≤ j by omega)]
  simp
theorem zGW {s : St} {i j : Nat} (h1 : (qV s).1.line = (i : Int)) (h2 : (qV s).2.line = (j : Int)) (p : Lin → Bool) : ∀ n, vC p s (j + 1 + n) = vC p s (j + 1)
 | 0 => rfl
 | n + 1 => by
  rw [← zGW h1 h2 p n];unfold vC;rw [show j + 1 + (n + 1) = (j + 1 + n) + 1 from rfl, List.range_succ, List.all_append];simp only [List.all_cons, List.all_nil, Bool.and_true];rw [zAd h1 h2, decide_eq_false (show ¬ j + 1 + n ≤ j by omega)]
  simp
theorem zNi {s : St} {i j : Nat} (h1 : (qV s).1.line = (i : Int)) (h2 : (qV s).2.line = (j : Int)) (hj : j < s.lines.length) (p : Lin → Bool) : yS p s (j + 1) = yS p s s.lines.length := by
 have := zGU h1 h2 p (s.lines.length - (j + 1));rw [show j + 1 + (s.lines.length - (j + 1)) = s.lines.length by omega] at this;exact this.symm
theorem zNk {s : St} {i j : Nat} (h1 : (qV s).1.line = (i : Int)) (h2 : (qV s).2.line = (j : Int)) (hj : j < s.lines.length) (p : Lin → Bool) : vC p s (j + 1) = vC p s s.lines.length := by
 have := zGW h1 h2 p (s.lines.length - (j + 1));rw [show j + 1 + (s.lines.length - (j + 1)) = s.lines.length by omega] at this;exact this.symm
theorem zCx {s : St} (hm : mayS s = true) : ∃ i j : Nat, (qV s).1.line = (i : Int) ∧ (qV s).2.line = (j : Int) ∧ i ≤ j ∧ j < s.lines.length := by
 obtain ⟨hM, i, j, p, q, l, m, ha, hb, hl, hm', hp, hq, hij, hpq⟩ := vF (zGk hm);exact ⟨i, j, by rw [ha], by rw [hb], hij, (zK.1 hm').1⟩
def zAI (k : Int) : List UInt8 := if k = 0 then [112] else if k = 1 then [104, 49] else if k = 2 then [104, 50] else if k = 3 then [104, 51] else []
def zAt (s : St) (name : List UInt8) : List UInt8 := match kF name with
 | some k => if k = 12 then (match xF s with | some q => zAI q | none => []) else if k = 9 then zBt s else []
 | none => []
def zAO (name arg : List UInt8) : List UInt8 × Bool := match kF name with
 | some k => if (cmds.getD k default).data = 1 then (arg, true) else ([], true)
 | none => ([], false)
theorem zNs {s : St} (hm : mayS s = true) (hr : RngS s) {k : Nat} {c : Cmd} (h : cmds[k]? = some c) (a : List UInt8) : DoOn (runQ s c.name a) := by
 unfold runQ;rw [zLA h];exact zNP hm hr k a
end Go.Proofs.Qw
namespace Go.Proofs.YtcliojeoindceaaGreatDoor
open Go.RowKit
open Go.Proofs.Qw
attribute [local go_sem] Oper.semAt_some
open _root_.Go.Proofs.YtcliojeoindceaaGreatDoor renaming jK → zZ, jF → qG
def tagV (n : Nat) : Array Value := #[.slice none 0 0, .int .i64 1, .slice (some ⟨n + 1, 0, none⟩) 1 1, .int .i64 2, .slice (some ⟨n + 2, 0, none⟩) 1 1, .int .i64 3, .slice (some ⟨n + 3, 0, none⟩) 1 1, .int .i64 3, .slice (some ⟨n + 4, 0, none⟩) 1 1, .int .i64 3, .slice (some ⟨n + 5, 0, none⟩) 1 1, .int .i64 3, .slice (some ⟨n + 6, 0, none⟩) 1 1, .int .i64 2, .slice (some ⟨n + 7, 0, none⟩) 1 1, .int .i64 2, .slice (some ⟨n + 8, 0, none⟩) 1 1, .int .i64 2, .slice (some ⟨n + 9, 0, none⟩) 1 1, .int .i64 3, .slice (some ⟨n + 10, 0, none⟩) 1 1, .int .i64 4, .slice (some ⟨n + 11, 0, none⟩) 2 2, .int .i64 4, .slice (some ⟨n + 12, 0, none⟩) 2 2, .int .i64 4, .slice (some ⟨n + 13, 0, none⟩) 2 2, .int .i64 4, .slice (some ⟨n + 14, 0, none⟩) 3 3, .int .i64 4, .slice (some ⟨n + 15, 0, none⟩) 1 1, .int .i64 4, .slice (some ⟨n + 16, 0, none⟩) 1 1, .int .i64 5]
def uW : List Obj := [
 .cells #[.string ⟨#[100, 105, 118]⟩] 9,
 .cells #[.string ⟨#[112]⟩] 9,
 .cells #[.string ⟨#[104, 49]⟩] 9,
 .cells #[.string ⟨#[104, 50]⟩] 9,
 .cells #[.string ⟨#[104, 51]⟩] 9,
 .cells #[.string ⟨#[98, 108, 111, 99, 107, 113, 117, 111, 116, 101]⟩] 9,
 .cells #[.string ⟨#[117, 108]⟩] 9,
 .cells #[.string ⟨#[111, 108]⟩] 9,
 .cells #[.string ⟨#[108, 105]⟩] 9,
 .cells #[.string ⟨#[97]⟩] 9,
 .cells #[.string ⟨#[98]⟩, .string ⟨#[115, 116, 114, 111, 110, 103]⟩] 9,
 .cells #[.string ⟨#[105]⟩, .string ⟨#[101, 109]⟩] 9,
 .cells #[.string ⟨#[117]⟩, .string ⟨#[105, 110, 115]⟩] 9,
 .cells #[.string ⟨#[115]⟩, .string ⟨#[115, 116, 114, 105, 107, 101]⟩, .string ⟨#[100, 101, 108]⟩] 9,
 .cells #[.string ⟨#[115, 112, 97, 110]⟩] 9,
 .cells #[.string ⟨#[98, 114]⟩] 9]
set_option maxRecDepth 100000 in
theorem zKP (w : World) : ∃ W1, ((((((((((((((((w.alloc (.cells #[.slice none 0 0, .int .i64 0, .slice none 0 0, .int .i64 0, .slice none 0 0, .int .i64 0, .slice none 0 0, .int .i64 0, .slice none 0 0, .int .i64 0, .slice none 0 0, .int .i64 0, .slice none 0 0, .int .i64 0, .slice none 0 0, .int .i64 0, .slice none 0 0, .int .i64 0, .slice none 0 0, .int .i64 0, .slice none 0 0, .int .i64 0, .slice none 0 0, .int .i64 0, .slice none 0 0, .int .i64 0, .slice none 0 0, .int .i64 0, .slice none 0 0, .int .i64 0, .slice none 0 0, .int .i64 0, .slice none 0 0, .int .i64 0] 166)).alloc (.cells #[.string ⟨#[100, 105, 118]⟩] 9)).alloc (.cells #[.string ⟨#[112]⟩] 9)).alloc (.cells #[.string ⟨#[104, 49]⟩] 9)).alloc (.cells #[.string ⟨#[104, 50]⟩] 9)).alloc (.cells #[.string ⟨#[104, 51]⟩] 9)).alloc (.cells #[.string ⟨#[98, 108, 111, 99, 107, 113, 117, 111, 116, 101]⟩] 9)).alloc (.cells #[.string ⟨#[117, 108]⟩] 9)).alloc (.cells #[.string ⟨#[111, 108]⟩] 9)).alloc (.cells #[.string ⟨#[108, 105]⟩] 9)).alloc (.cells #[.string ⟨#[97]⟩] 9)).alloc (.cells #[.string ⟨#[98]⟩, .string ⟨#[115, 116, 114, 111, 110, 103]⟩] 9)).alloc (.cells #[.string ⟨#[105]⟩, .string ⟨#[101, 109]⟩] 9)).alloc (.cells #[.string ⟨#[117]⟩, .string ⟨#[105, 110, 115]⟩] 9)).alloc (.cells #[.string ⟨#[115]⟩, .string ⟨#[115, 116, 114, 105, 107, 101]⟩, .string ⟨#[100, 101, 108]⟩] 9)).alloc (.cells #[.string ⟨#[115, 112, 97, 110]⟩] 9)).alloc (.cells #[.string ⟨#[98, 114]⟩] 9) = W1 ∧ Below w.heap.size w W1 ∧ W1.heap[w.heap.size]? = some (.cells #[.slice none 0 0, .int .i64 0, .slice none 0 0, .int .i64 0, .slice none 0 0, .int .i64 0, .slice none 0 0, .int .i64 0, .slice none 0 0, .int .i64 0, .slice none 0 0, .int .i64 0, .slice none 0 0, .int .i64 0, .slice none 0 0, .int .i64 0, .slice none 0 0, .int .i64 0, .slice none 0 0, .int .i64 0, .slice none 0 0, .int .i64 0, .slice none 0 0, .int .i64 0, .slice none 0 0, .int .i64 0, .slice none 0 0, .int .i64 0, .slice none 0 0, .int .i64 0, .slice none 0 0, .int .i64 0, .slice none 0 0, .int .i64 0] 166) ∧ W1.heap[w.heap.size + 1]? = some (.cells #[.string ⟨#[100, 105, 118]⟩] 9) ∧ W1.heap[w.heap.size + 2]? = some (.cells #[.string ⟨#[112]⟩] 9) ∧ W1.heap[w.heap.size + 3]? = some (.cells #[.string ⟨#[104, 49]⟩] 9) ∧ W1.heap[w.heap.size + 4]? = some (.cells #[.string ⟨#[104, 50]⟩] 9) ∧ W1.heap[w.heap.size + 5]? = some (.cells #[.string ⟨#[104, 51]⟩] 9) ∧ W1.heap[w.heap.size + 6]? = some (.cells #[.string ⟨#[98, 108, 111, 99, 107, 113, 117, 111, 116, 101]⟩] 9) ∧ W1.heap[w.heap.size + 7]? = some (.cells #[.string ⟨#[117, 108]⟩] 9) ∧ W1.heap[w.heap.size + 8]? = some (.cells #[.string ⟨#[111, 108]⟩] 9) ∧ W1.heap[w.heap.size + 9]? = some (.cells #[.string ⟨#[108, 105]⟩] 9) ∧ W1.heap[w.heap.size + 10]? = some (.cells #[.string ⟨#[97]⟩] 9) ∧ W1.heap[w.heap.size + 11]? = some (.cells #[.string ⟨#[98]⟩, .string ⟨#[115, 116, 114, 111, 110, 103]⟩] 9) ∧ W1.heap[w.heap.size + 12]? = some (.cells #[.string ⟨#[105]⟩, .string ⟨#[101, 109]⟩] 9) ∧ W1.heap[w.heap.size + 13]? = some (.cells #[.string ⟨#[117]⟩, .string ⟨#[105, 110, 115]⟩] 9) ∧ W1.heap[w.heap.size + 14]? = some (.cells #[.string ⟨#[115]⟩, .string ⟨#[115, 116, 114, 105, 107, 101]⟩, .string ⟨#[100, 101, 108]⟩] 9) ∧ W1.heap[w.heap.size + 15]? = some (.cells #[.string ⟨#[115, 112, 97, 110]⟩] 9) ∧ W1.heap[w.heap.size + 16]? = some (.cells #[.string ⟨#[98, 114]⟩] 9) :=
 ⟨_, rfl, (((((((((((((((((Below.refl _ _).alloc (Nat.le_refl _) _).alloc qF _).alloc jB _).alloc jB _).alloc jB _).alloc jB _).alloc jB _).alloc jB _).alloc jB _).alloc jB _).alloc jB _).alloc jB _).alloc jB _).alloc jB _).alloc jB _).alloc jB _).alloc jB _, zZ _ _ (zZ _ _ (zZ _ _ (zZ _ _ (zZ _ _ (zZ _ _ (zZ _ _ (zZ _ _ (zZ _ _ (zZ _ _ (zZ _ _ (zZ _ _ (zZ _ _ (zZ _ _ (zZ _ _ (zZ _ _ (qG _ _ rfl)))))))))))))))), zZ _ _ (zZ _ _ (zZ _ _ (zZ _ _ (zZ _ _ (zZ _ _ (zZ _ _ (zZ _ _ (zZ _ _ (zZ _ _ (zZ _ _ (zZ _ _ (zZ _ _ (zZ _ _ (zZ _ _ (qG _ _ qF))))))))))))))), zZ _ _ (zZ _ _ (zZ _ _ (zZ _ _ (zZ _ _ (zZ _ _ (zZ _ _ (zZ _ _ (zZ _ _ (zZ _ _ (zZ _ _ (zZ _ _ (zZ _ _ (zZ _ _ (qG _ _ qF)))))))))))))), zZ _ _ (zZ _ _ (zZ _ _ (zZ _ _ (zZ _ _ (zZ _ _ (zZ _ _ (zZ _ _ (zZ _ _ (zZ _ _ (zZ _ _ (zZ _ _ (zZ _ _ (qG _ _ qF))))))))))))), zZ _ _ (zZ _ _ (zZ _ _ (zZ _ _ (zZ _ _ (zZ _ _ (zZ _ _ (zZ _ _ (zZ _ _ (zZ _ _ (zZ _ _ (zZ _ _ (qG _ _ qF)))))))))))), zZ _ _ (zZ _ _ (zZ _ _ (zZ _ _ (zZ _ _ (zZ _ _ (zZ _ _ (zZ _ _ (zZ _ _ (zZ _ _ (zZ _ _ (qG _ _ qF))))))))))), zZ _ _ (zZ _ _ (zZ _ _ (zZ _ _ (zZ _ _ (zZ _ _ (zZ _ _ (zZ _ _ (zZ _ _ (zZ _ _ (qG _ _ qF)))))))))), zZ _ _ (zZ _ _ (zZ _ _ (zZ _ _ (zZ _ _ (zZ _ _ (zZ _ _ (zZ _ _ (zZ _ _ (qG _ _ qF))))))))), zZ _ _ (zZ _ _ (zZ _ _ (zZ _ _ (zZ _ _ (zZ _ _ (zZ _ _ (zZ _ _ (qG _ _ qF)))))))), zZ _ _ (zZ _ _ (zZ _ _ (zZ _ _ (zZ _ _ (zZ _ _ (zZ _ _ (qG _ _ qF))))))), zZ _ _ (zZ _ _ (zZ _ _ (zZ _ _ (zZ _ _ (zZ _ _ (qG _ _ qF)))))), zZ _ _ (zZ _ _ (zZ _ _ (zZ _ _ (zZ _ _ (qG _ _ qF))))), zZ _ _ (zZ _ _ (zZ _ _ (zZ _ _ (qG _ _ qF)))), zZ _ _ (zZ _ _ (zZ _ _ (qG _ _ qF))), zZ _ _ (zZ _ _ (qG _ _ qF)), zZ _ _ (qG _ _ qF), qG _ _ qF⟩
theorem zHF {fn : Func} {p : Tmp} (h : fn.results = #[.cell p 166]) (tmps : Array Value) (w : World) (B : Nat) (vs : Array Value) (hp : tmps.getD p undef = .pointer (some ⟨B, 0, none⟩))
  (hB : w.heap[B]? = some (.cells vs 166)) (hs : (Tryz.prog.info? 166).map (·.size) = some vs.size) : (results fn tmps).run Tryz.prog w = .ok (.agg vs) w := by
 have h1 := run_loadVar_row (P := Tryz.prog) w B 166 166 _ _ _ hB Tryz.underlying166 rfl hs;have hp' : tmps[p]?.getD undef = .pointer (some ⟨B, 0, none⟩) := by simpa using hp
 simp [results, h, hp', asAddr, h1]
theorem zMb {w W : World} (h0 : W.heap[w.heap.size + 1]? = some (.cells #[.string ⟨#[100, 105, 118]⟩] 9)) (h1 : W.heap[w.heap.size + 2]? = some (.cells #[.string ⟨#[112]⟩] 9)) (h2 : W.heap[w.heap.size + 3]? = some (.cells #[.string ⟨#[104, 49]⟩] 9)) (h3 : W.heap[w.heap.size + 4]? = some (.cells #[.string ⟨#[104, 50]⟩] 9)) (h4 : W.heap[w.heap.size + 5]? = some (.cells #[.string ⟨#[104, 51]⟩] 9)) (h5 : W.heap[w.heap.size + 6]? = some (.cells #[.string ⟨#[98, 108, 111, 99, 107, 113, 117, 111, 116, 101]⟩] 9)) (h6 : W.heap[w.heap.size + 7]? = some (.cells #[.string ⟨#[117, 108]⟩] 9)) (h7 : W.heap[w.heap.size + 8]? = some (.cells #[.string ⟨#[111, 108]⟩] 9)) (h8 : W.heap[w.heap.size + 9]? = some (.cells #[.string ⟨#[108, 105]⟩] 9)) (h9 : W.heap[w.heap.size + 10]? = some (.cells #[.string ⟨#[97]⟩] 9)) (h10 : W.heap[w.heap.size + 11]? = some (.cells #[.string ⟨#[98]⟩, .string ⟨#[115, 116, 114, 111, 110, 103]⟩] 9)) (h11 : W.heap[w.heap.size + 12]? = some (.cells #[.string ⟨#[105]⟩, .string ⟨#[101, 109]⟩] 9)) (h12 : W.heap[w.heap.size + 13]? = some (.cells #[.string ⟨#[117]⟩, .string ⟨#[105, 110, 115]⟩] 9)) (h13 : W.heap[w.heap.size + 14]? = some (.cells #[.string ⟨#[115]⟩, .string ⟨#[115, 116, 114, 105, 107, 101]⟩, .string ⟨#[100, 101, 108]⟩] 9)) (h14 : W.heap[w.heap.size + 15]? = some (.cells #[.string ⟨#[115, 112, 97, 110]⟩] 9)) (h15 : W.heap[w.heap.size + 16]? = some (.cells #[.string ⟨#[98, 114]⟩] 9)) : ∀ (k : Nat) (o : Obj), uW[k]? = some o → W.heap[w.heap.size + (k + 1)]? = some o := fun k o hk => by
 have hk16 : k < 16 := (List.getElem?_eq_some_iff.1 hk).1
 match k, hk16, hk with
 | 0, _, hk => cases hk; exact h0
 | 1, _, hk => cases hk; exact h1
 | 2, _, hk => cases hk; exact h2
 | 3, _, hk => cases hk; exact h3
 | 4, _, hk => cases hk; exact h4
 | 5, _, hk => cases hk; exact h5
 | 6, _, hk => cases hk; exact h6
 | 7, _, hk => cases hk; exact h7
 | 8, _, hk => cases hk; exact h8
 | 9, _, hk => cases hk; exact h9
 | 10, _, hk => cases hk; exact h10
 | 11, _, hk => cases hk; exact h11
 | 12, _, hk => cases hk; exact h12
 | 13, _, hk => cases hk; exact h13
 | 14, _, hk => cases hk; exact h14
 | 15, _, hk => cases hk; exact h15
set_option maxRecDepth 100000 in
theorem zET (w : World) : Calls Tryz.prog 201 #[] w fun e w' => e = .returned (.agg (tagV w.heap.size)) ∧ Below w.heap.size w w' ∧ ∀ (k : Nat) (o : Obj), uW[k]? = some o → w'.heap[w.heap.size + (k + 1)]? = some o := by
 obtain ⟨W1, hW1, hB, ht, h0, h1, h2, h3, h4, h5, h6, h7, h8, h9, h10, h11, h12, h13, h14, h15⟩ := zKP w;have HO := Lib.hid (zMb h0 h1 h2 h3 h4 h5 h6 h7 h8 h9 h10 h11 h12 h13 h14 h15);have HT := Lib.hid ht;have HB := Lib.hid hB;have HW := Lib.hid hW1;clear hW1 ht hB h0 h1 h2 h3 h4 h5 h6 h7 h8 h9 h10 h11 h12 h13 h14 h15;go_enter Tryz.func201, Tryz.ntmps201
 go_wp2_with (first
  | (refine wpList_build rfl 166 _ rfl zT ?_; rw [HW.out]
     refine wpList_store_row rfl 166 _ _ rfl w.heap.size (tagV w.heap.size) zT zT 166 _ HT.out zT zT zT ?_
     generalize hact : Act.put _ _ _ = a9
     have ha9 : a9.tmps.getD 0 undef = .pointer (some ⟨w.heap.size, 0, none⟩) := by rw [← hact]; kernel_rfl
     have hd9 : a9.defers = [] := by rw [← hact]; kernel_rfl
     clear hact;refine wpList_nil ?_;have hW := setRow_heap W1 w.heap.size _ (tagV w.heap.size) 166 _ HT.out;simp only [Exit.then];refine ‹∀ (a : Act) (w : World), Code.wp _ _ _ a w → _› _ _ ?_;refine wp_ret ?_;refine bodyPost_ret (zHF rfl _ _ w.heap.size _ ha9 hW zT) hd9 ?_;exact ⟨rfl, zCn HB.out (Nat.le_refl _), fun k o hk => by rw [zDi _ _ _ qD]; exact HO.out k o hk⟩))
end Go.Proofs.YtcliojeoindceaaGreatDoor
namespace Go.Proofs.Qw
open Go.RowKit Go.Proofs.YtcliojeoindceaaGreatDoor
open _root_.List renaming getElem?_eq_some_iff → zK
def putT (D : DataW Unit) (x : List UInt8 × Int) : DataW Unit := D.put (.string x.1) (.lit (.int .i64 x.2))
def mapT (n : Nat) : DataW Unit := (kB.take n).foldl putT (.map [])
theorem zLj {n : Nat} {x : List UInt8 × Int} (h : kB[n]? = some x) : mapT (n + 1) = putT (mapT n) x := by
 unfold mapT;rw [vP h, List.foldl_append]
 rfl
theorem zFM : ∀ (xs : List (List UInt8 × Int)) (D : DataW Unit), Maps.IsMap D → Maps.IsMap (xs.foldl putT D)
 | [], _, h => h
 | _ :: xs, _, h => zFM xs _ (h.put _ _)
theorem zEk {l : List UInt8} : ∀ (xs : List (List UInt8 × Int)) (D : DataW Unit) (z : DataW Unit), (∀ x ∈ xs, x.1 ≠ l) → (xs.foldl putT D).atKey (.string l) z = D.atKey (.string l) z ∧ Maps.has (xs.foldl putT D) (.string l) = Maps.has D (.string l)
 | [], _, _, _ => ⟨rfl, rfl⟩
 | x :: xs, D, z, h => by
  have hne : (Lit.string l) ≠ Lit.string x.1 := fun e => h x (List.mem_cons_self ..) (Lit.string.inj e).symm;obtain ⟨h1, h2⟩ := zEk xs (putT D x) z (fun y hy => h y (List.mem_cons_of_mem _ hy));exact ⟨h1.trans (Maps.atKey_put_other hne _ _), h2.trans (Maps.has_put_other hne _)⟩
theorem zFL (l : List UInt8) : WideAt.IsKeyLit (Lit.string l) := trivial
theorem zNa (l : List UInt8) : ((mapT 21).atKey (.string l) (.lit (.int .i64 0)) = .lit (.int .i64 (((kB.find? fun x => decide (x.1 = l)).map (·.2)).getD 0))) ∧ Maps.has (mapT 21) (.string l) = (kB.find? fun x => decide (x.1 = l)).isSome := by
 have hm : mapT 21 = kB.foldl putT (.map []) := rfl;rw [hm]
 by_cases h : ∃ x ∈ kB, x.1 = l
 ·obtain ⟨x, hx, rfl⟩ := h
  obtain ⟨i, hi⟩ := List.getElem?_of_mem hx;have hil : i < 21 := (zK.1 hi).1;have H : ∀ i : Fin 21, ((kB.drop (i.val + 1)).all fun y => decide (y.1 ≠ (kB[i.val]'i.isLt).1)) = true ∧ (kB.find? fun y => decide (y.1 = (kB[i.val]'i.isLt).1)) = some (kB[i.val]'i.isLt) := by decide +kernel
  obtain ⟨H1, H2⟩ := H ⟨i, hil⟩;have hxe : kB[i]'hil = x := (zK.1 hi).2;simp only [hxe] at H1 H2;rw [H2]
  have e : kB = kB.take i ++ x :: kB.drop (i + 1) := by
   rw [← zK.1 hi |>.2, List.getElem_cons_drop, List.take_append_drop]
  have hd : ∀ y ∈ kB.drop (i + 1), y.1 ≠ x.1 := fun y hy => of_decide_eq_true (List.all_eq_true.1 H1 y hy)
  have ef : kB.foldl putT (.map []) = (kB.drop (i + 1)).foldl putT (putT ((kB.take i).foldl putT (.map [])) x) := by
   conv => lhs; rw [e, List.foldl_append, List.foldl_cons]
  rw [ef];obtain ⟨h1, h2⟩ := zEk (kB.drop (i + 1)) (putT ((kB.take i).foldl putT (.map [])) x) (.lit (.int .i64 0)) hd;have hM := zFM (kB.take i) (.map []) Maps.isMap_empty;exact ⟨h1.trans (Maps.atKey_put_same hM (zFL _) _ _), h2.trans (Maps.has_put_same hM (zFL _) _)⟩
 ·have hn : ∀ x ∈ kB, x.1 ≠ l := fun x hx e => h ⟨x, hx, e⟩
  have hf : (kB.find? fun x => decide (x.1 = l)) = none := List.find?_eq_none.2 (fun x hx => by simpa using hn x hx);rw [hf];obtain ⟨h1, h2⟩ := zEk kB (.map []) (.lit (.int .i64 0)) hn;exact ⟨h1, h2⟩
def offT (k : Nat) : Nat := [0, 0, 1, 2, 3, 4, 5, 6, 7, 8, 9, 10, 12, 14, 16, 19, 20, 21].getD k 0
def lenT (k : Nat) : Nat := [0, 1, 1, 1, 1, 1, 1, 1, 1, 1, 1, 2, 2, 2, 3, 1, 1].getD k 0
theorem zLe {k : Nat} (h : k < 17) : offT (k + 1) = offT k + lenT k := by
 have H : ∀ k : Fin 17, offT (k.val + 1) = offT k.val + lenT k.val := by decide
 exact H ⟨k, h⟩
theorem zEh {k m : Nat} (h : k < 17) (hm : m < lenT k) : offT k + m < 21 ∧ m < 3 := by
 have H : ∀ k : Fin 17, offT k.val + lenT k.val ≤ 21 ∧ lenT k.val ≤ 3 := by decide
 have := H ⟨k, h⟩;constructor
 ·have := this.1; simp only at this; omega
 ·have := this.2; simp only at this; omega
theorem zMV {k m : Nat} (h : k < 17) (hm : m < lenT k) : ∃ nm, kB[offT k + m]? = some (nm, (k : Int)) ∧ nm.length ≤ 10 ∧ ∃ cs : Array Value, uW[k - 1]? = some (.cells cs 9) ∧ cs[m]? = some (.string ⟨nm.toArray⟩) ∧ 1 ≤ k := by
 have hm3 := (zEh h hm).2;have e1 : k = 0 ∨ k = 1 ∨ k = 2 ∨ k = 3 ∨ k = 4 ∨ k = 5 ∨ k = 6 ∨ k = 7 ∨ k = 8 ∨ k = 9 ∨ k = 10 ∨ k = 11 ∨ k = 12 ∨ k = 13 ∨ k = 14 ∨ k = 15 ∨ k = 16 := by omega
 have e2 : m = 0 ∨ m = 1 ∨ m = 2 := by omega
 clear h hm3;rcases e1 with rfl | rfl | rfl | rfl | rfl | rfl | rfl | rfl | rfl | rfl | rfl | rfl | rfl | rfl | rfl | rfl | rfl <;> rcases e2 with rfl | rfl | rfl <;> first | exact absurd hm qW | exact ⟨_, rfl, by decide, _, rfl, rfl, by decide⟩
end Go.Proofs.Qw
namespace Go.Proofs.YtcliojeoindceaaGreatDoor
open Go.RowKit
open Go.Proofs.Qw
open _root_.Go.Proofs.Tryz renaming prog → zV
theorem zIX (c : Int) (w : World) (h1 : 0 ≤ c) (h2 : c ≤ 1114111) :
  Calls zV 291 #[.int .i32 c] w fun e w' => e = .returned (.int .i32 (lowR c)) ∧ w' = w := by
 have e1 : ∀ c : Int, 0 ≤ c → c ≤ 1114111 → IntKind.i32.wrap (c + 97) = c + 97 := fun c h1 h2 => IntWalk.i32_in _ qD;unfold lowR;go_enter Tryz.func291, Tryz.ntmps291;go_wp2_with fail
 all_goals
  go_ret;refine ⟨?_, rfl⟩;refine congrArg Ending.returned (zBU ?_)
 all_goals first
  | rfl
  | (rw [if_pos ⟨by assumption, by assumption⟩]; rfl)
  | omega
  | (rw [if_neg qD]; rfl)
theorem zIk (w : World) : MapGrows zV 291 #[] lowR w := fun W x hx _ => (zIX (x : Int) W qD qD).mono fun _ _ ⟨h1, h2⟩ => ⟨h1, h2 ▸ Below.refl _ _⟩
theorem zJV (s : ByteArray) (w : World) (he : EnvT w) (hs : s.size ≤ 1000000) :
  Calls zV 252 #[.string s] w fun e w' => e = .returned (.string ⟨(Lib.mapD lowR s.data.toList).toArray⟩) ∧ Below w.heap.size w w' := by
 have HC : Hid (∀ W, EnvT W → Calls zV 132 #[.func (.func 291) #[] #[], .string s] W fun e w' => e = .returned (.string ⟨(Lib.mapD lowR s.data.toList).toArray⟩) ∧ Below W.heap.size W w') := Lib.hid fun W hW =>
  Tryz.strings_Map_grows 291 #[] (enters_of Tryz.func291 zT rfl) lowR s W qD (zIk W) zDG hW.2
 go_enter Tryz.func252, Tryz.ntmps252;go_wp2_with (go_at_call 132; refine (HC.out _ he).mono ?_; rintro e w2 ⟨rfl, hb2⟩);go_ret;exact ⟨rfl, hb2⟩
theorem zJn (c : Int) (w : World) (h1 : 0 ≤ c) (h2 : c ≤ 1114111) :
  Calls zV 133 #[.int .i32 c] w fun e w' => e = .returned (.int .i32 (lowR c)) ∧ w' = w := by
 have e1 : ∀ c : Int, 0 ≤ c → c ≤ 1114111 → IntKind.i32.wrap (c + 97) = c + 97 := fun c h1 h2 => IntWalk.i32_in _ qD;unfold lowR;go_enter Tryz.func133, Tryz.ntmps133;go_wp2_with fail
 all_goals
  go_ret;refine ⟨?_, rfl⟩;refine congrArg Ending.returned (zBU ?_)
 all_goals first
  | rfl
  | (rw [if_pos ⟨by assumption, by assumption⟩]; rfl)
  | omega
  | (rw [if_neg qD]; rfl)
theorem zIv (w : World) : MapGrows zV 133 #[] lowR w := fun W x hx _ => (zJn (x : Int) W qD qD).mono fun _ _ ⟨h1, h2⟩ => ⟨h1, h2 ▸ Below.refl _ _⟩
theorem zFE (s : ByteArray) (w : World) (he : EnvT w) (hs : s.size ≤ 1000000) :
  Calls zV 67 #[.string s] w fun e w' => e = .returned (.string ⟨(Lib.mapD lowR s.data.toList).toArray⟩) ∧ Below w.heap.size w w' := by
 have HC : Hid (∀ W, EnvT W → Calls zV 132 #[.func (.func 133) #[] #[], .string s] W fun e w' => e = .returned (.string ⟨(Lib.mapD lowR s.data.toList).toArray⟩) ∧ Below W.heap.size W w') := Lib.hid fun W hW =>
  Tryz.strings_Map_grows 133 #[] (enters_of Tryz.func133 zT rfl) lowR s W qD (zIv W) zDG hW.2
 go_enter Tryz.func67, Tryz.ntmps67;go_wp2_with (go_at_call 132; refine (HC.out _ he).mono ?_; rintro e w2 ⟨rfl, hb2⟩);go_ret;exact ⟨rfl, hb2⟩
end Go.Proofs.YtcliojeoindceaaGreatDoor
namespace Go.Proofs.YtcliojeoindceaaGreatDoor
open Go.RowKit
open Go.Proofs.Qw
attribute [local go_sem] Oper.semAt_some
open _root_.Go.Lib renaming hid → zA
open _root_.Nat renaming le_refl → zC
open _root_.Go.RowKit.Below renaming refl → zE
open _root_.Go.Proofs.Tryz renaming prog → zV
def zCb (n k : Nat) : Value := .slice (if k = 0 then none else some ⟨n + k, 0, none⟩) (lenT k) (lenT k)
def zBq (k : Nat) : Int := [1, 2, 3, 3, 3, 3, 2, 2, 2, 3, 4, 4, 4, 4, 4, 4, 5].getD k 0
set_option maxRecDepth 100000 in
theorem zGe (n : Nat) : ∀ k : Nat, k < 17 → ∀ w, (Instr.index 166 (.agg (tagV n)) (.int .i64 k)).run zV w = .ok (.agg #[zCb n k, .int .i64 (zBq k)]) w := fun k hk w => by
 have e1 : k = 0 ∨ k = 1 ∨ k = 2 ∨ k = 3 ∨ k = 4 ∨ k = 5 ∨ k = 6 ∨ k = 7 ∨ k = 8 ∨ k = 9 ∨ k = 10 ∨ k = 11 ∨ k = 12 ∨ k = 13 ∨ k = 14 ∨ k = 15 ∨ k = 16 := by omega
 clear hk;rcases e1 with rfl | rfl | rfl | rfl | rfl | rfl | rfl | rfl | rfl | rfl | rfl | rfl | rfl | rfl | rfl | rfl | rfl <;> rfl
set_option maxRecDepth 100000 in
theorem zIj (w : World) : Calls zV 251 #[] w fun e w' => e = .returned (.map (some w.heap.size)) ∧ w'.ownsMap zV 9 (plainElem zV 3) w.heap.size 21 (mapT 21) ∧ Below w.heap.size w w' := by
 have hmm := @run_makeMap zV;have hW1 : (w.alloc (.map #[] 0)).ownsMap zV 9 (plainElem (H := Unit) zV 3) w.heap.size 0 (.map []) := World.ownsMap_made w _ _ _;obtain ⟨W1, hWe⟩ : ∃ W1, w.alloc (.map #[] 0) = W1 := ⟨_, rfl⟩;rw [hWe] at hW1;have hB1 : Below w.heap.size w W1 := hWe ▸ (zE _ _).alloc (zC _) _;have hz1 : W1.heap.size = w.heap.size + 1 := by rw [← hWe]; simp
 have HWe := zA hWe;have HM := zA hW1;have HB1 := zA hB1;clear hWe hW1 hB1;go_enter Tryz.func251, Tryz.ntmps251;go_wp2_with (go_at_call 201; rw [HWe.out]; refine (zET _).mono ?_; rintro e w2 ⟨rfl, hb2, ho2⟩);have hIx : ∀ (k : Nat), k < 17 → ∀ X, (Instr.index 166 (.agg (tagV (w.heap.size + 1))) (.int .i64 k)).run zV X = .ok (.agg #[zCb (w.heap.size + 1) k, .int .i64 (zBq k)]) X := fun k hk X => zGe _ k hk X;have HIx := zA hIx;have HO2 := zA ho2;have HM2 : Hid (w2.ownsMap zV 9 (plainElem (H := Unit) zV 3) w.heap.size 0 (.map [])) := zA (HM.out.kept (zCl hb2) qF);have HB2 := zA (HB1.out.trans (hb2.mono HB1.out.size));have HOb : Hid (∀ (k : Nat) (o : Obj), uW[k]? = some o → w2.heap[w.heap.size + 1 + (k + 1)]? = some o) := zA fun k o hk => by rw [← hz1]; exact ho2 k o hk
 have hz2 := hb2.size;clear hIx ho2 hb2 hmm;go_loopw [8, 2, 3, 5, 15] (fun z _ _ _ _ wr => ∃ k : Nat, k ≤ 17 ∧ z = .int .i64 k ∧ Hid (wr.ownsMap zV 9 (plainElem (H := Unit) zV 3) w.heap.size (offT k) (mapT (offT k))) ∧ Hid (Below w.heap.size w wr) ∧ Hid (∀ (k : Nat) (o : Obj), uW[k]? = some o → wr.heap[w.heap.size + 1 + (k + 1)]? = some o) ∧ w2.heap.size ≤ wr.heap.size) (fun z _ _ _ _ _ => 17 - (intOf z).toNat)
 case atStart => exact ⟨0, by omega, rfl, HM2, HB2, HOb, zC _⟩
 case round =>
  obtain ⟨k, hk, rfl, HMk, HBk, HOk, hzk⟩ := hrel
  by_cases hlt : k < 17
  ·have hix := HIx.out k hlt
   have i1 : (k : Int) < 17 := by omega
   unfold zCb at hix;obtain ⟨ad, had⟩ : ∃ ad, (if k = 0 then none else some (⟨w.heap.size + 1 + k, 0, none⟩ : Addr)) = ad := ⟨_, rfl⟩;rw [had] at hix
   have HAD : Hid (0 < lenT k → ad = some ⟨w.heap.size + 1 + k, 0, none⟩) := zA fun h => by
    rw [← had, if_neg];rintro rfl;exact absurd h qW
   clear had;obtain ⟨ln, hln⟩ : ∃ n, lenT k = n := ⟨_, rfl⟩;rw [hln] at hix HAD;obtain ⟨cl, hcl⟩ : ∃ c, zBq k = c := ⟨_, rfl⟩;rw [hcl] at hix;clear hcl;have HLN := zA hln;have HLT := zA hlt;clear hln hlt;go_wp2_with fail;obtain ⟨wa, hwa⟩ : ∃ wa, wr.alloc (.cells #[.slice ad ln ln, .int .i64 cl] 120) = wa := ⟨_, rfl⟩;rw [hwa];have hba : Below wr.heap.size wr wa := hwa ▸ (zE _ _).alloc (zC _) _;have HMa : Hid (wa.ownsMap zV 9 (plainElem (H := Unit) zV 3) w.heap.size (offT k + 0) (mapT (offT k + 0))) := zA (hwa ▸ HMk.out.alloc _);have hza := hba.size;have HBa := zA (HBk.out.trans (hba.mono HBk.out.size));have HOa : Hid (∀ (k : Nat) (o : Obj), uW[k]? = some o → wa.heap[w.heap.size + 1 + (k + 1)]? = some o) := zA fun k o hk => jI hba (HOk.out k o hk);clear hwa hba;go_loopw [15, 5] (fun z _ wr => ∃ m : Nat, m ≤ ln ∧ z = .int .i64 m ∧ Hid (wr.ownsMap zV 9 (plainElem (H := Unit) zV 3) w.heap.size (offT k + m) (mapT (offT k + m))) ∧ Hid (Below w.heap.size w wr) ∧ Hid (∀ (k : Nat) (o : Obj), uW[k]? = some o → wr.heap[w.heap.size + 1 + (k + 1)]? = some o) ∧ w2.heap.size ≤ wr.heap.size) (fun z _ _ => ln - (intOf z).toNat)
   case atStart => exact ⟨0, by omega, rfl, HMa, HBa, HOa, by omega⟩
   case round =>
    obtain ⟨m, hm, rfl, HMm, HBm, HOm, hzm⟩ := hrel
    by_cases hlt2 : m < ln
    ·have HLT2 := zA hlt2
     obtain ⟨nm, ht1, hn1, cs, ht2, ht3, hk1⟩ := zMV HLT.out (by rw [HLN.out]; exact hlt2 : m < lenT k);have had := HAD.out qD;subst had;have hcell := HOm.out (k - 1) _ ht2;rw [show w.heap.size + 1 + (k - 1 + 1) = w.heap.size + 1 + k by omega] at hcell;obtain ⟨p1, f1⟩ := blk hcell;have c1 : wr.cell? ⟨w.heap.size + 1 + k, m, none⟩ = some (.string ⟨nm.toArray⟩) := (p1 m).trans ht3;have HN := zA (And.intro ht1 hn1);have j0 : (0 : Int) ≤ (m : Int) := Int.natCast_nonneg _;have j1 : (m : Int) < (ln : Int) := by omega
     have hroom : offT k + m < maxLen := by
      have := (zEh HLT.out (by rw [HLN.out]; exact hlt2 : m < lenT k)).1;unfold maxLen
      omega
     have hkw : (Lit.int .i64 (k : Int)).wf = true := by
      have H : ∀ k : Fin 17, (Lit.int .i64 (k.val : Int)).wf = true := by decide
      exact H ⟨k, HLT.out⟩
     have HUP := zA (And.intro hroom hkw);have hm3 : m < 3 := (zEh HLT.out (by rw [HLN.out]; exact hlt2 : m < lenT k)).2;clear p1 f1 hcell ht1 ht2 ht3 hn1 hroom hkw
     go_wp2_with (first
      | (at_mapUpdate; go_must (refine wpList_mapUpdate_own _ rfl _ _ _ 214 rfl 9 3 (Maps.string_keyed Tryz.underlying9) Tryz.underlying214 (plainElem (H := Unit) zV 3) w.heap.size (offT k + m) (mapT (offT k + m)) rfl HMm.out HUP.out.1 (.string ⟨nm.toArray⟩) (.int .i64 k) (.string nm) rfl rfl (Go.WideMaps.keyOf_string_mk Tryz.underlying9 (by show nm.toArray.size ≤ maxLen; simp [maxLen]; have := HN.out.2; omega)) (.lit (.int .i64 k)) [] (plainElem_int Tryz.underlying3 HUP.out.2) ?_; intro w5 hown5 hg5)))
     go_roundw
     case rel =>
      refine ⟨m + 1, HLT2.out, by go_num, zA ?_, zA (HBm.out.grown hg5 (by have := HBm.out.size; omega) (fun j e => by cases e; exact zC _)), zA (fun j o h => (hg5.block _ (Array.getElem?_eq_some_iff.1 (HOm.out j o h)).1 (by intro e; have := Option.some.inj e; omega)).trans (HOm.out j o h)), by have := hg5.size; omega⟩;rw [show offT k + (m + 1) = offT k + m + 1 from rfl, zLj HN.out.1];exact hown5
     case measure => have := HLT2.out; simp [intOf]; omega
    ·obtain rfl : m = ln := by omega
     have HMn : Hid (wr.ownsMap zV 9 (plainElem (H := Unit) zV 3) w.heap.size (offT (k + 1)) (mapT (offT (k + 1)))) := zA (by rw [zLe HLT.out, HLN.out]; exact HMm.out);go_wp2_with fail;go_roundw
     case rel => exact ⟨k + 1, HLT.out, by have := HLT.out; go_num, HMn, HBm, HOm, hzm⟩
     case measure => have := HLT.out; simp [intOf]; omega
  ·obtain rfl : k = 17 := by omega
   go_wp2_with fail;go_ret;exact ⟨rfl, HMk.out, HBk.out⟩
theorem zJA (z : Int) : (Lib.encodeRune z).length ≤ 4 := by
 unfold Lib.encodeRune Lib.encodeRuneZ;rw [List.length_map]
 repeat' split
 all_goals simp
theorem zGl (f : Int → Int) : ∀ (n : Nat) (l : List UInt8), l.length ≤ n → (Lib.mapD f l).length ≤ 4 * l.length
 | 0, l, hn => by
  have : l = [] := List.eq_nil_of_length_eq_zero qD;subst this;simp [Lib.mapD_nil]
 | n + 1, l, hn => by
  by_cases hne : l = []
  ·subst hne
   simp [Lib.mapD_nil]
  ·have hw := Lib.decodeL_width l
   have hle := Lib.decodeL_le l hne;have ih := zGl f n (l.drop (Lib.decodeL l).2) zBz;rw [List.length_drop] at ih;rw [Lib.mapD_step f l hne, List.length_append]
   have hh : (if 0 ≤ f (Lib.decodeL l).1 then Lib.encodeRune (f (Lib.decodeL l).1) else []).length ≤ 4 := by
    split
    ·exact zJA _
    ·simp
   omega
theorem zFa {α : Type} {p q : α → Bool} : ∀ (l : List α), (∀ x ∈ l, p x = q x) → l.find? p = l.find? q
 | [], _ => rfl
 | x :: l, h => by
  rw [List.find?_cons, List.find?_cons, h x (List.mem_cons_self ..), zFa l (fun y hy => h y (List.mem_cons_of_mem _ hy))]
theorem zMc (l : List UInt8) : (kB.find? fun x => decide (x.1 = Lib.mapD lowR l)) = kB.find? fun x => decide (x.1 = l.map lowB) := by
 refine zFa _ (fun x hx => ?_);have H : ∀ x ∈ kB, ∀ b ∈ x.1, b.toNat < 128 := by decide +kernel
 have := zCF l.length l x.1 (zC _) (H x hx);exact decide_eq_decide.2 ⟨fun e => (this.1 e.symm).symm, fun e => (this.2 e.symm).symm⟩
set_option maxRecDepth 100000 in
theorem zCr (s : ByteArray) (w : World) (he : EnvT w) (hs : s.size ≤ 1000000) :
  Calls zV 163 #[.string s] w fun e w' => e = .returned (.tuple #[.int .i64 ((tagF s.data.toList).getD 0), .bool (tagF s.data.toList).isSome]) ∧ Below w.heap.size w w' := by
 obtain ⟨ky, hky⟩ : ∃ k, Lib.mapD lowR s.data.toList = k := ⟨_, rfl⟩
 have hkl : ky.length ≤ maxLen := by
  have h1 := zGl lowR s.data.toList.length s.data.toList (zC _);rw [hky] at h1;have h2 : s.data.toList.length = s.size := Array.length_toList;unfold maxLen
  omega
 have HL : Hid (∀ W, Below w.heap.size w W → Calls zV 252 #[.string s] W fun e w' => e = .returned (.string ⟨ky.toArray⟩) ∧ Below W.heap.size W w') := zA fun W hW => by
  have := zJV s W (he.below hW) hs;rw [hky] at this;exact this
 have HT : Hid (tagF s.data.toList = (kB.find? fun x => decide (x.1 = ky)).map (·.2)) := zA (by
  unfold tagF;rw [← zMc, hky])
 have HK := zA hkl;clear hky hkl he;go_enter Tryz.func163, Tryz.ntmps163
 go_wp2_with (first
  | (go_at_call 251; refine (zIj _).mono ?_; rintro e w2 ⟨rfl, hown2, hb2⟩; have HO2 := zA hown2; clear hown2)
  | (go_at_call 252; refine (HL.out _ hb2).mono ?_; rintro e w3 ⟨rfl, hst3⟩; have HO3 := zA (HO2.out.kept (zCl hst3) qF); have hb3 := jG hb2 hst3)
  | (at_lookup; go_must (refine wpList_lookup_own_ok_int _ rfl _ _ 214 rfl 9 3 .i64 (Maps.string_keyed Tryz.underlying9) Tryz.underlying214 Tryz.underlying3 yU w.heap.size 21 (mapT 21) rfl HO3.out (.string ⟨ky.toArray⟩) (.string ky) rfl (Go.WideMaps.keyOf_string_mk Tryz.underlying9 (by show ky.toArray.size ≤ maxLen; simpa using HK.out)) ?_; intro c hc _)))
 go_ret2;obtain ⟨h1, h2⟩ := zNa ky;rw [h1] at hc;have hc' := Lit.int.inj (DataW.lit.inj hc);refine ⟨?_, hb3⟩;rw [HT.out];refine congrArg Ending.returned (congrArg Value.tuple ?_)
 show #[Value.int .i64 c, Value.bool (Maps.has (mapT 21) (Lit.string ky))] = _
 rw [h2, ← hc'.2, Option.isSome_map]
theorem zCi (t : Int) (w : World) : Calls zV 164 #[.int .i64 t] w fun e w' => e = .returned (.int .i64 (if 3 ≤ t ∧ t ≤ 5 then t - 2 else 0)) ∧ Below w.heap.size w w' := by
 by_cases h : 3 ≤ t ∧ t ≤ 5
 ·rw [if_pos h]
  have : t = 3 ∨ t = 4 ∨ t = 5 := by omega
  rcases this with rfl | rfl | rfl
  all_goals
   go_enter Tryz.func164, Tryz.ntmps164;go_wp2_with fail;go_ret;exact ⟨rfl, zE _ _⟩
 ·rw [if_neg h]
  rcases (show t < 3 ∨ (3 ≤ t ∧ 5 < t) by omega) with h | ⟨h1, h2⟩
  all_goals
   go_enter Tryz.func164, Tryz.ntmps164;go_wp2_with fail;go_ret;exact ⟨rfl, zE _ _⟩
theorem zIY (k : Int) (hk : 0 ≤ k ∧ k ≤ 3) (w : World) : Calls zV 58 #[.int .i64 k] w fun e w' => e = .returned (.tuple #[.int .i64 (k + 2), .bool true]) ∧ Below w.heap.size w w' := by
 have : k = 0 ∨ k = 1 ∨ k = 2 ∨ k = 3 := by omega
 rcases this with rfl | rfl | rfl | rfl
 all_goals
  go_enter Tryz.func58, Tryz.ntmps58;go_wp2_with fail;go_ret2;exact ⟨rfl, zE _ _⟩
end Go.Proofs.YtcliojeoindceaaGreatDoor
namespace Go.Proofs.Qw
open Go.RowKit Go.Proofs.YtcliojeoindceaaGreatDoor
theorem zGK {α : Type} (f : α → Bool) : ∀ (l : List α) (k : Nat), jV f k l = match l.findIdx? f with | some i => ((k + i : Nat) : Int) | none => -1
 | [], _ => rfl
 | x :: l, k => by
  rw [jV, List.findIdx?_cons];cases h : f x with
  | true => rw [if_pos rfl]; rfl
  | false =>
   rw [if_neg qF, zGK f l (k + 1)];simp only [Bool.false_eq_true, if_false];cases l.findIdx? f with
   | none => rfl
   | some i => show ((k + 1 + i : Nat) : Int) = ((k + (i + 1) : Nat) : Int); omega
def xX (name : List UInt8) : Nat := (kF name).getD 0
theorem zMB (name : List UInt8) : jV (fun c : Cmd => decide (Lib.mapD lowR c.name = Lib.mapD lowR name)) 0 cmds = match kF name with | some k => (k : Int) | none => -1 := by
 rw [zGK]
 have e : cmds.findIdx? (fun c : Cmd => decide (Lib.mapD lowR c.name = Lib.mapD lowR name)) = kF name := by
  unfold kF
  have H : ∀ (l : List Cmd), (∀ c ∈ l, ∀ b ∈ c.name, b.toNat < 128) → l.findIdx? (fun c : Cmd => decide (Lib.mapD lowR c.name = Lib.mapD lowR name)) = l.findIdx? (fun c : Cmd => decide (c.name.map lowB = name.map lowB)) := fun l => by
   induction l with
   | nil => intro _; rfl
   | cons c l ih =>
    intro h;rw [List.findIdx?_cons, List.findIdx?_cons, ih (fun c hc => h c (List.mem_cons_of_mem _ hc)), decide_eq_decide.2 (zNx (h c (List.mem_cons_self ..)) name)]
  exact H cmds zKA
 rw [e];cases kF name with
 | none => rfl
 | some k => show ((0 + k : Nat) : Int) = _; rw [Nat.zero_add]
end Go.Proofs.Qw
namespace Go.Proofs.YtcliojeoindceaaGreatDoor
open Go.RowKit
open Go.Proofs.Qw
attribute [local go_sem] Oper.semAt_some
open _root_.Go.Lib renaming hid → zA
open _root_.Nat renaming le_refl → zC
open _root_.Go.RowKit.Below renaming refl → zE
open _root_.Go.BigFrame renaming wpQuiet_want → zI
open _root_.Go.Act renaming put → zU
open _root_.Go.Proofs.Tryz renaming prog → zV
open _root_.Go.Proofs.YtcliojeoindceaaGreatDoor renaming jG → zX
open _root_.Go.Proofs.Qw renaming kG → qL
set_option maxRecDepth 100000 in
theorem zNq (n : Nat) {k : Nat} {c : Cmd} (h : cmds[k]? = some c) : (tabV n)[k * 4]? = some (.string ⟨c.name.toArray⟩) ∧ (tabV n)[k * 4 + 1]? = some (.string ⟨c.input.toArray⟩) ∧ (tabV n)[k * 4 + 2]? = some (.int .i64 c.data) ∧ ∃ g caps, (zAN n)[k]? = some (.func (.func g) #[] caps) ∧ (tabV n)[k * 4 + 3]? = some (.func (.func g) #[] caps) := by
 have hk := (List.getElem?_eq_some_iff.1 h).1;have e1 : k = 0 ∨ k = 1 ∨ k = 2 ∨ k = 3 ∨ k = 4 ∨ k = 5 ∨ k = 6 ∨ k = 7 ∨ k = 8 ∨ k = 9 ∨ k = 10 ∨ k = 11 ∨ k = 12 ∨ k = 13 ∨ k = 14 ∨ k = 15 ∨ k = 16 := by have : k < 17 := hk; omega
 clear hk;rcases e1 with rfl | rfl | rfl | rfl | rfl | rfl | rfl | rfl | rfl | rfl | rfl | rfl | rfl | rfl | rfl | rfl | rfl <;> (cases h; exact ⟨rfl, rfl, rfl, _, _, rfl, rfl⟩)
theorem zIw (c : Cmd) (g : Nat) (caps : Array Value) (name : ByteArray) (Bn : Nat) (w : World) (he : EnvT w) (hc : c.name.length ≤ 1000) (hs : name.size ≤ 1000000) (hB : w.heap[Bn]? = some (.cells #[.string name] 9)) :
  Calls zV 66 #[.agg #[.string ⟨c.name.toArray⟩, .string ⟨c.input.toArray⟩, .int .i64 c.data, .func (.func g) #[] caps], .pointer (some ⟨Bn, 0, none⟩)] w fun e w' => e = .returned (.bool (decide (Lib.mapD lowR c.name = Lib.mapD lowR name.data.toList))) ∧ Below w.heap.size w w' := by
 obtain ⟨a, ha⟩ : ∃ a, Lib.mapD lowR c.name = a := ⟨_, rfl⟩;obtain ⟨b, hb⟩ : ∃ a, Lib.mapD lowR name.data.toList = a := ⟨_, rfl⟩
 have HL1 : Hid (∀ W, Below w.heap.size w W → Calls zV 67 #[.string ⟨c.name.toArray⟩] W fun e w' => e = .returned (.string ⟨a.toArray⟩) ∧ Below W.heap.size W w') := zA fun W hW => by
  have := zFE ⟨c.name.toArray⟩ W (he.below hW) (by show c.name.toArray.size ≤ _; simp; omega);rw [show (⟨c.name.toArray⟩ : ByteArray).data.toList = c.name from rfl, ha] at this;exact this
 have HL2 : Hid (∀ W, Below w.heap.size w W → Calls zV 67 #[.string name] W fun e w' => e = .returned (.string ⟨b.toArray⟩) ∧ Below W.heap.size W w') := zA fun W hW => by
  have := zFE name W (he.below hW) hs;rw [hb] at this;exact this
 rw [ha, hb];obtain ⟨W1, hW1⟩ : ∃ W1, w.alloc (.cells #[.string ⟨c.name.toArray⟩, .string ⟨c.input.toArray⟩, .int .i64 c.data, .func (.func g) #[] caps] 64) = W1 := ⟨_, rfl⟩;have hB1 : Below w.heap.size w W1 := hW1 ▸ (zE _ _).alloc (zC _) _;have H1 := zA hB1;have HF : Hid (∀ W, Below W1.heap.size W1 W → W.heap[w.heap.size]? = some (.cells #[.string ⟨c.name.toArray⟩, .string ⟨c.input.toArray⟩, .int .i64 c.data, .func (.func g) #[] caps] 64) ∧ W.heap[Bn]? = some (.cells #[.string name] 9)) := zA fun W hW => ⟨jI hW (hW1 ▸ jF _ _ rfl), jI hW (jI hB1 hB)⟩;have hs1 := hB1.size;have HW1 := zA hW1;clear he ha hb hB hB1 hW1;go_enter Tryz.func66, Tryz.ntmps66;go_wp2_with fail;rw [HW1.out];refine xN W1.heap.size zT zT ?_;refine zI zT (fun K hK => ?_);refine qL ?_ (fun W hW => ?_) (hK _ ?_);rotate_left 1
 ·skip
  go_simp
  try rfl
 clear hK;clear K;try simp only [zU, qI, qX, qY]
 refine zI zT (fun K hK => ?_);refine qL ?_ (fun W hW => ?_) (hK _ ?_);rotate_left 1
 ·skip
  go_simp
  try rfl
 clear hK;clear K;try simp only [zU, qI, qX, qY]
 refine zI zT (fun K hK => ?_);refine qL ?_ (fun W hW => ?_) (hK _ ?_);rotate_left 1
 ·obtain ⟨p0, f0⟩ := blk (HF.out _ hW).1
  go_simp
  try rfl
 clear hK;clear K;try simp only [zU, qI, qX, qY]
 refine zI zT (fun K hK => ?_);refine uJ (f := ?_) (args := ?_) ?_ (fun W hW => ?_) (fun W hW => ?_) (hK _ ?_);rotate_left 3
 ·go_simp
  constructor <;> rfl
 ·refine (HL1.out _ (zX H1.out hW)).mono ?_
  rintro e W2 ⟨rfl, hbW⟩;refine ⟨?_, zX hW hbW⟩
  rfl
 clear hK;clear K;try simp only [zU, qI, qX, qY]
 refine zI zT (fun K hK => ?_);refine qL ?_ (fun W hW => ?_) (hK _ ?_);rotate_left 1
 ·obtain ⟨p0, f0⟩ := blk (HF.out _ hW).2
  go_simp
  try rfl
 clear hK;clear K;try simp only [zU, qI, qX, qY]
 refine zI zT (fun K hK => ?_);refine uJ (f := ?_) (args := ?_) ?_ (fun W hW => ?_) (fun W hW => ?_) (hK _ ?_);rotate_left 3
 ·go_simp
  constructor <;> rfl
 ·refine (HL2.out _ (zX H1.out hW)).mono ?_
  rintro e W2 ⟨rfl, hbW⟩;refine ⟨?_, zX hW hbW⟩
  rfl
 clear hK;clear K;try simp only [zU, qI, qX, qY]
 refine zI zT (fun K hK => ?_);refine qL ?_ (fun W hW => ?_) (hK _ ?_);rotate_left 1
 ·skip
  go_simp
  try rfl
 clear hK;clear K;try simp only [zU, qI, qX, qY]
 refine zI zT (fun K hK => ?_);refine qL ?_ (fun W hW => ?_) (hK _ ?_);rotate_left 1
 ·skip
  go_simp
  try rfl
 clear hK;clear K;try simp only [zU, qI, qX, qY]
 refine wpQuiet_nil (fun X6 hstX6 => ?_);go_wp2_with fail;go_ret;refine ⟨?_, H1.out.trans (hstX6.mono hs1)⟩;refine congrArg (fun b => Ending.returned (Value.bool b)) ?_
 by_cases e : a = b
 ·simp [e]
 ·simp [e]
theorem zIB (b n : Nat) (f : Cmd → Bool) (g : Nat) (lb : Array Value) (eg : ∀ args w, (callFunc g args).run zV w = .ok (.enter g args) w) (w : World) (he : EnvT w) (hb : w.heap[b]? = some (.cells (tabV n) 65))
  (hf : ∀ (i : Nat) (c : Cmd) (h : Nat) (caps : Array Value) (W : World), cmds[i]? = some c → EnvT W → Below w.heap.size w W → Calls zV g (#[.agg #[.string ⟨c.name.toArray⟩, .string ⟨c.input.toArray⟩, .int .i64 c.data, .func (.func h) #[] caps]] ++ lb) W fun e w' => e = .returned (.bool (f c)) ∧ Below W.heap.size W w') :
  Calls zV 65 #[.slice (some ⟨b, 0, none⟩) 17 17, .func (.func g) #[] lb] w fun e w' => e = .returned (.int .i64 (jV f 0 cmds)) ∧ Below w.heap.size w w' := by
 have HF := zA hf;have HBB := zA hb;have HN : Hid (jV f 0 cmds = jV f 0 (cmds.drop 0)) := zA rfl;obtain ⟨D, hD⟩ : ∃ D, cmds = D := ⟨_, rfl⟩;have hDl : D.length = 17 := hD ▸ rfl;have HTA : Hid (∀ (k : Nat) (c : Cmd), D[k]? = some c → (tabV n)[k * 4]? = some (.string ⟨c.name.toArray⟩) ∧ (tabV n)[k * 4 + 1]? = some (.string ⟨c.input.toArray⟩) ∧ (tabV n)[k * 4 + 2]? = some (.int .i64 c.data) ∧ ∃ g caps, (zAN n)[k]? = some (.func (.func g) #[] caps) ∧ (tabV n)[k * 4 + 3]? = some (.func (.func g) #[] caps)) := zA fun k c h => zNq n (by rw [hD]; exact h);rw [hD] at HF HN;rw [hD];have hlt := (Array.getElem?_eq_some_iff.1 hb).1;clear hf hb hD
 generalize tabV n = TV at *
 go_enter Tryz.func65, Tryz.ntmps65;go_wp2_with fail;go_loopw [8] (fun i wr => ∃ k : Nat, k ≤ 17 ∧ i = .int .i64 k ∧ jV f 0 D = jV f k (D.drop k) ∧ Below w.heap.size w wr) (fun i _ => 17 - (intOf i).toNat)
 case atStart => exact ⟨0, Nat.zero_le _, rfl, HN.out, zE _ _⟩
 case round =>
  obtain ⟨k, hk, rfl, hg, hbw⟩ := hrel
  by_cases hlt2 : k < 17
  ·obtain ⟨l, hl, hd⟩ := jP D k qD
   obtain ⟨t0, t1, t2, h, caps, _, t3⟩ := HTA.out k l hl;obtain ⟨p0, f0⟩ := blk (jI hbw HBB.out);have c0 := (p0 (k * 4)).trans t0;have c1 := (p0 (k * 4 + 1)).trans t1;have c2 := (p0 (k * 4 + 2)).trans t2;have c3 := (p0 (k * 4 + 3)).trans t3;obtain ⟨r, hr⟩ : ∃ r, f l = r := ⟨_, rfl⟩;have HG : Hid (jV f 0 D = if r = true then (k : Int) else jV f (k + 1) (D.drop (k + 1))) := zA (by rw [hg, hd, jV, hr]);have HC := zA (HF.out k l h caps wr hl (he.below hbw) hbw);have HLT := zA hlt2;rw [hr] at HC;have i1 : (k : Int) < 17 := by omega
   clear hd hl hg hr p0 f0 t0 t1 t2 t3;go_wp2_with (go_at_fn g; refine HC.out.mono ?_; rintro e w1 ⟨rfl, hb1⟩; cases r)
   ·go_roundw
    case rel => exact ⟨k + 1, HLT.out, by go_num, HG.out, zX hbw hb1⟩
    case measure => have := HLT.out; simp [intOf]; omega
   ·go_ret
    refine ⟨?_, zX hbw hb1⟩;rw [HG.out]
    rfl
  ·obtain rfl : k = 17 := by omega
   have HG : Hid (jV f 0 D = -1) := zA (by rw [hg, List.drop_eq_nil_of_le qD]; rfl);clear hg;go_wp2_with fail;go_ret;rw [HG.out];exact ⟨rfl, hbw⟩
set_option maxRecDepth 100000 in
theorem zAD (name : ByteArray) (w : World) (he : EnvT w) (hs : name.size ≤ 1000000) :
  Calls zV 26 #[.string name] w fun e w' => e = .returned (.tuple #[.int .i64 (xX name.data.toList), .bool (kF name.data.toList).isSome]) ∧ Below w.heap.size w w' := by
 obtain ⟨W1, hW1⟩ : ∃ W1, w.alloc (.cells #[.string name] 9) = W1 := ⟨_, rfl⟩;have hB1 : Below w.heap.size w W1 := hW1 ▸ (zE _ _).alloc (zC _) _;have hz1 : w.heap.size < W1.heap.size := by rw [← hW1]; simp
 have HN1 : Hid (∀ W, Below W1.heap.size W1 W → W.heap[w.heap.size]? = some (.cells #[.string name] 9)) := zA fun W hW => jI hW (hW1 ▸ jF _ _ rfl);have HE := zA (he.below hB1);have H1 := zA hB1;have HW1 := zA hW1
 have HI : Hid (∀ (W : World) (b n : Nat), Below W1.heap.size W1 W → W.heap[b]? = some (.cells (tabV n) 65) → Calls zV 65 #[.slice (some ⟨b, 0, none⟩) 17 17, .func (.func 66) #[] #[.pointer (some ⟨w.heap.size, 0, none⟩)]] W fun e w' => e = .returned (.int .i64 (match kF name.data.toList with | some k => (k : Int) | none => -1)) ∧ Below W.heap.size W w') := zA fun W b n hW hb => by
  have := zIB b n (fun c => decide (Lib.mapD lowR c.name = Lib.mapD lowR name.data.toList)) 66 #[.pointer (some ⟨w.heap.size, 0, none⟩)] (enters_of Tryz.func66 zT rfl) W ((he.below hB1).below hW) hb
   (fun i c h caps W' hc hE hW' => zIw c h caps name w.heap.size W' hE (by
    have H : ∀ c ∈ cmds, c.name.length ≤ 1000 := by decide +kernel
    exact H c (List.mem_of_getElem? hc)) hs (HN1.out W' (zX hW hW')))
  rw [zMB] at this;exact this
 have hs1 := hB1.size;clear hW1 hB1 he;obtain ⟨r, hr⟩ : ∃ r, kF name.data.toList = r := ⟨_, rfl⟩;have HFN := zA (show xX name.data.toList = r.getD 0 by unfold xX; rw [hr]);rw [hr] at HI ⊢;rw [HFN.out];clear hr;cases r
 ·go_enter Tryz.func26, Tryz.ntmps26
  go_wp2_with (first
   | (go_at_call 35; rw [HW1.out]; refine (zAY _).mono ?_; rintro e w2 ⟨rfl, hb2, _⟩)
   | (refine wpList_store_row rfl 65 _ _ rfl w2.heap.size (tabV W1.heap.size) rfl rfl 65 _ (jF _ _ rfl) zT zT zT ?_
      have ht3 := setRow_heap (w2.alloc (.cells Tryz.zeroCells65 65)) w2.heap.size _ (tabV W1.heap.size) 65 _ (jF _ _ rfl);obtain ⟨w3, hw3⟩ : ∃ w3, (w2.alloc (.cells Tryz.zeroCells65 65)).setRow w2.heap.size (tabV W1.heap.size) = w3 := ⟨_, rfl⟩;have hst3 : Below w2.heap.size w2 w3 := hw3 ▸ zCn ((zE _ _).alloc (zC _) _) (zC _);rw [hw3] at ht3 ⊢;have hb3 := zX hb2 hst3;have HT3 := zA ht3;clear hw3 ht3)
   | (go_at_call 65; refine (HI.out _ _ _ hb3 HT3.out).mono ?_; rintro e w4 ⟨rfl, hst4⟩; have hb4 := zX hb3 hst4))
  go_ret2;exact ⟨rfl, H1.out.trans (hb4.mono hs1)⟩
 ·rename_i k
  have hk0 : ¬ (k : Int) < 0 := by omega
  go_enter Tryz.func26, Tryz.ntmps26
  go_wp2_with (first
   | (go_at_call 35; rw [HW1.out]; refine (zAY _).mono ?_; rintro e w2 ⟨rfl, hb2, _⟩)
   | (refine wpList_store_row rfl 65 _ _ rfl w2.heap.size (tabV W1.heap.size) rfl rfl 65 _ (jF _ _ rfl) zT zT zT ?_
      have ht3 := setRow_heap (w2.alloc (.cells Tryz.zeroCells65 65)) w2.heap.size _ (tabV W1.heap.size) 65 _ (jF _ _ rfl);obtain ⟨w3, hw3⟩ : ∃ w3, (w2.alloc (.cells Tryz.zeroCells65 65)).setRow w2.heap.size (tabV W1.heap.size) = w3 := ⟨_, rfl⟩;have hst3 : Below w2.heap.size w2 w3 := hw3 ▸ zCn ((zE _ _).alloc (zC _) _) (zC _);rw [hw3] at ht3 ⊢;have hb3 := zX hb2 hst3;have HT3 := zA ht3;clear hw3 ht3)
   | (go_at_call 65; refine (HI.out _ _ _ hb3 HT3.out).mono ?_; rintro e w4 ⟨rfl, hst4⟩; have hb4 := zX hb3 hst4))
  go_ret2;exact ⟨rfl, H1.out.trans (hb4.mono hs1)⟩
end Go.Proofs.YtcliojeoindceaaGreatDoor
namespace Go.Proofs.Qw
def zBV (c : Cmd) : List Value := [.string ⟨c.name.toArray⟩, .string ⟨c.input.toArray⟩, .int .i64 c.data]
end Go.Proofs.Qw
namespace Go.Proofs.YtcliojeoindceaaGreatDoor
open Go.RowKit
open Go.Proofs.Qw
attribute [local go_sem] Oper.semAt_some
open _root_.Go.Lib renaming hid → zA
open _root_.Go.Proofs.Tryz renaming prog → zV
theorem zHn : RowT zV 40 43 3 := RowT.mk' (y := 40) Tryz.underlying40 zT qW (z := .agg #[.string ⟨#[]⟩, .string ⟨#[]⟩, .int .i64 0]) yU
theorem zNF : Elt 43 3 (rdOf zBV) := zCQ _ qW (fun _ => rfl) (fun x u hu => by simp [zBV] at hu; rcases hu with rfl | rfl | rfl <;> rfl)
theorem zMm (c : Cmd) : ∀ u ∈ [Value.string ⟨c.name.toArray⟩, .string ⟨c.input.toArray⟩, .int .i64 c.data], u.oneCell' = true := by
 intro u hu;simp at hu;rcases hu with rfl | rfl | rfl <;> rfl
abbrev zHs (own : Bool) (w : World) (S : Nat → Prop) (v : Value) (l : List Cmd) : Prop := SliceR 43 3 (rdOf zBV) own w S v l
set_option maxRecDepth 100000 in
theorem zJX (n : Nat) {k : Nat} {c : Cmd} (hc : cmds[k]? = some c) : ∃ g caps, ∀ X, (Instr.index 65 (.agg (tabV n)) (.int .i64 k)).run zV X = .ok (.agg #[.string ⟨c.name.toArray⟩, .string ⟨c.input.toArray⟩, .int .i64 c.data, .func (.func g) #[] caps]) X := by
 have hk : k < 17 := (List.getElem?_eq_some_iff.1 hc).1;have e1 : k = 0 ∨ k = 1 ∨ k = 2 ∨ k = 3 ∨ k = 4 ∨ k = 5 ∨ k = 6 ∨ k = 7 ∨ k = 8 ∨ k = 9 ∨ k = 10 ∨ k = 11 ∨ k = 12 ∨ k = 13 ∨ k = 14 ∨ k = 15 ∨ k = 16 := by omega
 clear hk;rcases e1 with rfl | rfl | rfl | rfl | rfl | rfl | rfl | rfl | rfl | rfl | rfl | rfl | rfl | rfl | rfl | rfl | rfl <;> (cases hc; exact ⟨_, _, fun _ => rfl⟩)
set_option maxRecDepth 100000 in
theorem zKe (w : World) : Calls zV 24 #[] w fun e w' => ∃ v, e = .returned v ∧ zHs true w' (fun b => w.heap.size ≤ b) v cmds ∧ Below w.heap.size w w' := by
 have HIX : Hid (∀ (n k : Nat) (c : Cmd), cmds[k]? = some c → ∃ g caps, ∀ X, (Instr.index 65 (.agg (tabV n)) (.int .i64 k)).run zV X = .ok (.agg #[.string ⟨c.name.toArray⟩, .string ⟨c.input.toArray⟩, .int .i64 c.data, .func (.func g) #[] caps]) X) := zA fun n k c h => zJX n h;obtain ⟨D, hD⟩ : ∃ D, cmds = D := ⟨_, rfl⟩;have hDl : D.length = 17 := hD ▸ rfl;rw [hD] at HIX ⊢;clear hD;go_enter Tryz.func24, Tryz.ntmps24;go_wp2_with (go_at_call 35; refine (zAY _).mono ?_; rintro e w2 ⟨rfl, hb2, _⟩);have HB2 := zA hb2;have hz2 := hb2.size;clear hb2
 generalize hTV : tabV w.heap.size = TV
 have HIX : Hid (∀ (k : Nat) (c : Cmd), D[k]? = some c → ∃ g caps, ∀ X, (Instr.index 65 (.agg TV) (.int .i64 k)).run zV X = .ok (.agg #[.string ⟨c.name.toArray⟩, .string ⟨c.input.toArray⟩, .int .i64 c.data, .func (.func g) #[] caps]) X) := zA fun k c h => hTV ▸ HIX.out w.heap.size k c h;clear hTV;go_loopw [1, 5, 3] (fun l z _ wr => ∃ k : Nat, k ≤ 17 ∧ z = .int .i64 k ∧ Hid (zHs true wr (fun b => w.heap.size ≤ b) l (D.take k)) ∧ Hid (Below w.heap.size w wr) ∧ w.heap.size ≤ wr.heap.size) (fun _ z _ _ => 17 - (intOf z).toNat)
 case atStart => exact ⟨0, by omega, rfl, zA (SliceR.nil _ _ _ _ _ _), HB2, hz2⟩
 case round =>
  obtain ⟨k, hk, rfl, HO, HBk, hzk⟩ := hrel
  by_cases hlt : k < 17
  ·obtain ⟨c, hc, _⟩ := jP D k qD
   obtain ⟨g, caps, hix⟩ := HIX.out k c hc;have HT : Hid (D.take (k + 1) = D.take k ++ [c]) := zA (vP hc);obtain ⟨a0, c0, hv0⟩ := HO.out.slice;have hv0' : (D.take k).length = k := by rw [List.length_take]; omega
   rw [hv0'] at hv0;subst hv0;have HLT := zA hlt;have i1 : (k : Int) < 17 := by omega
   have HL : Hid ((D.take k).length + [c].length ≤ 100000000) := zA (by rw [hv0']; simp; omega);clear hc hv0';go_wp2_with (at_builtin; go_must (refine zAj _ rfl _ _ 40 40 rfl zHn zNF w.heap.size _ _ (xs := D.take k) (ys := [c]) (news := [.string ⟨c.name.toArray⟩, .string ⟨c.input.toArray⟩, .int .i64 c.data]) rfl rfl (SliceR.below (jZ _) HO.out (((Below.refl _ _).alloc (Nat.le_refl _) _).alloc qF _)) jB (zBl zHn _ _ rfl (zMm c) 1 qF) (NewsR.one rfl rfl) HL.out ?_; intro v' w5 hR hB5 _ _; rw [← HT.out] at hR; have HR5 := zA hR; have HB5 := zA hB5; clear hR hB5));go_roundw
   case rel => exact ⟨k + 1, HLT.out, by go_num, HR5, zA (((HBk.out.alloc hzk _).alloc jB _).trans HB5.out), by have := HB5.out.size; simp at this; omega⟩
   case measure => have := HLT.out; simp [intOf]; omega
  ·obtain rfl : k = 17 := by omega
   have HO' := HO.out;rw [List.take_of_length_le (show D.length ≤ 17 by omega)] at HO';have HO := zA HO';clear HO';go_wp2_with fail;go_ret;exact ⟨_, rfl, HO.out, HBk.out⟩
end Go.Proofs.YtcliojeoindceaaGreatDoor
