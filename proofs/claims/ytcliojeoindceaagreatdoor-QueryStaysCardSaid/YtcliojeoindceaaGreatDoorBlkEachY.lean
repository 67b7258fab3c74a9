/- Parts of the proof. -/
import Derived.Test.YtcliojeoindceaaGreatDoorQryAllY
import Derived.MapKept
import Derived.Test.YtcliojeoindceaaGreatDoorStSpanY
import Derived.Test.YtcliojeoindceaaGreatDoorRunesY
import Derived.Test.YtcliojeoindceaaGreatDoorLaidY
import Derived.Deep.RegionHeld3
import Derived.Deep.DrawnRows
import Derived.Test.YtcliojeoindceaaGreatDoorDocEachY
set_option linter.unusedVariables false
set_option linter.unusedSimpArgs false
set_option maxHeartbeats 8000000
namespace Go.Proofs.Qw
open Go.RowKit Go.Proofs.YtcliojeoindceaaGreatDoor
open _root_.List renaming getElem?_eq_some_iff → zK
theorem zNj (x : Int) : ∃ n : Nat, n ≤ 65535 ∧ Go.bits .and .i64 x 65535 = (n : Int) := by
 refine ⟨(BitVec.ofInt 64 x).toNat &&& 65535, Nat.and_le_right, ?_⟩;have h : (BitVec.ofInt 64 x).toNat &&& 65535 ≤ 65535 := Nat.and_le_right
 show IntKind.i64.wrap (((BitVec.ofInt 64 x &&& BitVec.ofInt 64 65535).toNat : Nat) : Int) = _
 rw [BitVec.toNat_and, show (BitVec.ofInt 64 65535).toNat = 65535 from rfl];exact IntWalk.i64_in _ qD
theorem zLE {t : TypeId} {own : Bool} {w : World} {S : Nat → Prop} {v : Value} {l : List Cmd} (h : SliceR t 3 (rdOf zBV) own w S v l) :
  ∃ a c, v = .slice a l.length c ∧ l.length ≤ c ∧ ∀ i x, l[i]? = some x → ∃ b o, a = some ⟨b, o, none⟩ ∧ b < w.heap.size ∧ w.cell? ⟨b, o + i * 3, none⟩ = some (.string ⟨x.name.toArray⟩) ∧ w.cell? ⟨b, o + i * 3 + 1, none⟩ = some (.string ⟨x.input.toArray⟩) ∧ w.cell? ⟨b, o + i * 3 + 2, none⟩ = some (.int .i64 x.data) := by
 obtain ⟨a, c, rfl, hc, _, hx⟩ := h.shape;refine ⟨a, c, rfl, hc, fun i x hi => ?_⟩;obtain ⟨b, o, vs, rfl, hb, _, hl, hR, hcell⟩ := hx i x hi;have e : vs = zBV x := hR;subst e;exact ⟨b, o, rfl, hb, hcell 0 _ rfl, hcell 1 _ rfl, hcell 2 _ rfl⟩
theorem zLD {k : Nat} {c : Cmd} (h : cmds[k]? = some c) : c.name.length ≤ 30 := by
 have hk : k < 17 := (zK.1 h).1;have H : ∀ k : Fin 17, (cmds[k.val]'k.isLt).name.length ≤ 30 := by decide +kernel
 obtain ⟨_, h2⟩ := zK.1 h;rw [← h2];exact H ⟨k, hk⟩
def rowT (f : Lin → Option Lin) (s : St) (D : Doc) (i : Nat) : Doc := match s.lines[i]? with | some l => (match f l with | some l' => D.set i l' | none => D) | none => D
def vU (f : Lin → Option Lin) (s : St) (is : List Nat) : Doc := is.foldl (rowT f s) s.lines
def kE (s : St) (i : Nat) : Lin := s.lines.getD i default
theorem zFP (f : Lin → Option Lin) (s : St) (is : List Nat) (i : Nat) : vU f s (is ++ [i]) = rowT f s (vU f s is) i := by simp [vU]
theorem zMg (f : Lin → Option Lin) (s : St) (D : Doc) (i : Nat) : (rowT f s D i).length = D.length := by
 unfold rowT
 split
 ·split
  ·simp
  ·rfl
 ·rfl
theorem zLu (f : Lin → Option Lin) (s : St) (is : List Nat) : (vU f s is).length = s.lines.length := by
 have H : ∀ (is : List Nat) (D : Doc), (is.foldl (rowT f s) D).length = D.length := fun is => by
  induction is with
  | nil => intro D; rfl
  | cons i is ih => intro D; rw [List.foldl_cons, ih, zMg]
 exact H is s.lines
theorem zBJ (i n : Nat) : List.range' i (n + 1) = List.range' i n ++ [i + n] := by rw [List.range'_concat]; simp
theorem zGs {s : St} {i j : Nat} (h1 : (qV s).1.line = (i : Int)) (h2 : (qV s).2.line = (j : Int)) (hj : j < s.lines.length) (f : Lin → Option Lin) : ∀ n, i + n ≤ j + 1 → vU f s (List.range' i n) = xQ f s (i + n)
 | 0, _ => (zJR h1 h2 f).symm
 | n + 1, h => by
  have hl : s.lines[i + n]? = some s.lines[i + n] := List.getElem?_eq_getElem qD;have hs : selI s (i + n) = true := by rw [zAd h1 h2, decide_eq_true qD, decide_eq_true qD]; rfl
  rw [zBJ, zFP, zGs h1 h2 hj f n qD, show i + (n + 1) = (i + n) + 1 from rfl, zKN hl, if_pos hs];unfold rowT;rw [hl];simp only;cases hf : f s.lines[i + n] with
  | some l' => rfl
  | none =>
   simp only [Option.getD_none]
   have ht : (xQ f s (i + n))[i + n]? = some s.lines[i + n] := by
    rw [zBf hl, if_neg qF]
   apply List.ext_getElem?
   intro k
   by_cases hk : k = i + n
   ·subst hk
    rw [ht, List.getElem?_set_self (by rw [uU]; omega)]
   ·rw [List.getElem?_set_ne qD]
theorem zKr {s : St} {i j : Nat} (h1 : (qV s).1.line = (i : Int)) (h2 : (qV s).2.line = (j : Int)) (hij : i ≤ j) (hj : j < s.lines.length) (f : Lin → Option Lin) : vU f s (List.range' i (j + 1 - i)) = zCa f s := by
 rw [zGs h1 h2 hj f (j + 1 - i) qD, show i + (j + 1 - i) = j + 1 by omega, zLY h1 h2 hj]
theorem zGT {s : St} {i j : Nat} (h1 : (qV s).1.line = (i : Int)) (h2 : (qV s).2.line = (j : Int)) (hj : j < s.lines.length) (p : Lin → Bool) : ∀ n, i + n ≤ j + 1 → (List.range' i n).any (fun k => p (kE s k)) = yS p s (i + n)
 | 0, _ => (zLP h1 h2 p).symm
 | n + 1, h => by
  have hl : s.lines[i + n]? = some s.lines[i + n] := List.getElem?_eq_getElem qD;have hs : selI s (i + n) = true := by rw [zAd h1 h2, decide_eq_true qD, decide_eq_true qD]; rfl
  rw [zBJ, List.any_append, zGT h1 h2 hj p n qD, show i + (n + 1) = (i + n) + 1 from rfl, zMK p hl, hs];simp [kE, List.getD_eq_getElem?_getD, hl]
theorem zGV {s : St} {i j : Nat} (h1 : (qV s).1.line = (i : Int)) (h2 : (qV s).2.line = (j : Int)) (hj : j < s.lines.length) (p : Lin → Bool) : ∀ n, i + n ≤ j + 1 → (List.range' i n).all (fun k => p (kE s k)) = vC p s (i + n)
 | 0, _ => (zLR h1 h2 p).symm
 | n + 1, h => by
  have hl : s.lines[i + n]? = some s.lines[i + n] := List.getElem?_eq_getElem qD;have hs : selI s (i + n) = true := by rw [zAd h1 h2, decide_eq_true qD, decide_eq_true qD]; rfl
  rw [zBJ, List.all_append, zGV h1 h2 hj p n qD, show i + (n + 1) = (i + n) + 1 from rfl, zMN p hl, hs];simp [kE, List.getD_eq_getElem?_getD, hl]
theorem zGA {s : St} {i j : Nat} (h1 : (qV s).1.line = (i : Int)) (h2 : (qV s).2.line = (j : Int)) (hij : i ≤ j) (hj : j < s.lines.length) (p : Lin → Bool) : (List.range' i (j + 1 - i)).any (fun k => p (kE s k)) = yS p s s.lines.length := by
 rw [zGT h1 h2 hj p (j + 1 - i) qD, show i + (j + 1 - i) = j + 1 by omega, zNi h1 h2 hj]
theorem zGB {s : St} {i j : Nat} (h1 : (qV s).1.line = (i : Int)) (h2 : (qV s).2.line = (j : Int)) (hij : i ≤ j) (hj : j < s.lines.length) (p : Lin → Bool) : (List.range' i (j + 1 - i)).all (fun k => p (kE s k)) = vC p s s.lines.length := by
 rw [zGV h1 h2 hj p (j + 1 - i) qD, show i + (j + 1 - i) = j + 1 by omega, zNk h1 h2 hj]
def zAg (x : Option Int) (l : Lin) : Option Int := match x with | some k => if l.lists ≠ [] ∨ (0 ≤ k ∧ l.kind ≠ k) then none else some l.kind | none => none
def vY (ls : List Lin) : Option Int := ls.foldl zAg (some (-1))
theorem zKs (ls : List Lin) (l : Lin) : vY (ls ++ [l]) = zAg (vY ls) l := by simp [vY]
theorem zCw (ls : List Lin) : ls.foldl zAg none = none := by
 induction ls with
 | nil => rfl
 | cons l ls ih => exact ih
theorem zIH {a b : List Lin} (h : a <+: b) (ha : vY a = none) : vY b = none := by
 obtain ⟨c, rfl⟩ := h;unfold vY at ha ⊢;rw [List.foldl_append, ha, zCw]
theorem zGt : ∀ (ls : List Lin) (k : Int), 0 ≤ k → (∀ l ∈ ls, 0 ≤ l.kind) → ls.foldl zAg (some k) = if ls.all (fun l => decide (l.lists = []) && decide (l.kind = k)) = true then some k else none
 | [], k, _, _ => rfl
 | l :: ls, k, hk, hl => by
  rw [List.foldl_cons, List.all_cons]
  by_cases h1 : l.lists = []
  ·by_cases h2 : l.kind = k
   ·have e : zAg (some k) l = some k := by
     show (if l.lists ≠ [] ∨ (0 ≤ k ∧ l.kind ≠ k) then none else some l.kind) = some k
     rw [if_neg (fun h => h.elim (fun h => h h1) (fun h => h.2 h2)), h2]
    rw [e, zGt ls k hk (fun x hx => hl x (List.mem_cons_of_mem _ hx))];simp [h1, h2]
   ·have e : zAg (some k) l = none := by
     show (if l.lists ≠ [] ∨ (0 ≤ k ∧ l.kind ≠ k) then none else some l.kind) = none
     rw [if_pos (.inr ⟨hk, h2⟩)]
    rw [e, zCw, if_neg (by simp [h2])]
  ·have e : zAg (some k) l = none := by
    show (if l.lists ≠ [] ∨ (0 ≤ k ∧ l.kind ≠ k) then none else some l.kind) = none
    rw [if_pos (.inl h1)]
   rw [e, zCw, if_neg (by simp [h1])]
theorem zLv (l : Lin) (ls : List Lin) (h : ∀ x ∈ l :: ls, 0 ≤ x.kind) : vY (l :: ls) = if (l :: ls).all (fun x => decide (x.lists = []) && decide (x.kind = l.kind)) = true then some l.kind else none := by
 unfold vY;rw [List.foldl_cons, List.all_cons]
 by_cases h1 : l.lists = []
 ·have e : zAg (some (-1)) l = some l.kind := by
   show (if l.lists ≠ [] ∨ (0 ≤ (-1 : Int) ∧ l.kind ≠ -1) then none else some l.kind) = some l.kind
   rw [if_neg (fun h => h.elim (fun h => h h1) (fun h => absurd h.1 qW))]
  rw [e, zGt ls l.kind (h l (List.mem_cons_self ..)) (fun x hx => h x (List.mem_cons_of_mem _ hx))];simp [h1]
 ·have e : zAg (some (-1)) l = none := by
   show (if l.lists ≠ [] ∨ (0 ≤ (-1 : Int) ∧ l.kind ≠ -1) then none else some l.kind) = none
   rw [if_pos (.inl h1)]
  rw [e, zCw, if_neg (by simp [h1])]
theorem zLn {s : St} (hm : mayS s = true) {i j : Nat} (h1 : (qV s).1.line = (i : Int)) (h2 : (qV s).2.line = (j : Int)) (hij : i ≤ j) (hj : j < s.lines.length) : xF s = vY ((List.range' i (j + 1 - i)).map (kE s)) := by
 have hk : ∀ k, k < s.lines.length → 0 ≤ (kE s k).kind := fun k hk => by
  have hl : s.lines[k]? = some s.lines[k] := List.getElem?_eq_getElem hk;have := (zAG ((xZ.1 (yK hm).1).2.2.2 _ (yI hl))).2.2.2.1;unfold kE;rw [List.getD_eq_getElem?_getD, hl];exact this
 have hli : xC s.lines (qV s).1 = kE s i := by
  unfold xC kE;rw [h1]
  rfl
 unfold xF;rw [if_pos hm, hli, ← zGB h1 h2 hij hj (fun l => decide (l.lists = []) && decide (l.kind = (kE s i).kind))];obtain ⟨n, hn⟩ : ∃ n, j + 1 - i = n + 1 := ⟨j - i, by omega⟩
 rw [hn, show List.range' i (n + 1) = i :: List.range' (i + 1) n from rfl, List.map_cons, zLv _ _ (fun x hx => by
  rw [← List.map_cons, ← show List.range' i (n + 1) = i :: List.range' (i + 1) n from rfl] at hx;obtain ⟨k, hk1, rfl⟩ := List.mem_map.1 hx;have := List.mem_range'_1.1 hk1;exact hk k qD)]
 congr 1
 rw [← List.map_cons, List.all_map]
 rfl
end Go.Proofs.Qw
namespace Go.Proofs.YtcliojeoindceaaGreatDoor
open Go.RowKit
open Go.Proofs.Qw
attribute [local go_sem] Oper.semAt_some
open _root_.Go.Lib renaming hid → zA
open _root_.And renaming intro → zB
open _root_.Nat renaming le_refl → zC
open _root_.Go.RowKit.Below renaming refl → zE, setCell → zF, alloc → zG, drew → zH
open _root_.Go renaming bodyPost_ret → zM
open _root_.Int renaming natCast_nonneg → zR
open _root_.List renaming length_append → zS
open _root_.Go.Proofs.Tryz renaming prog → zV
open _root_.Go.Proofs.YtcliojeoindceaaGreatDoor renaming jG → zX, jI → zY, jK → zZ, jQ → qR, jO → qT
open _root_.Go.Proofs.Qw renaming jZ → qC
open _root_.Go.Proofs.Qw.SliceR renaming stable → qH, below → qJ
open _root_.Go.Proofs.Qw.Keeps renaming refl → qN, alloc → qO, drew → qP, set → qQ
structure SelX (w0 : World) (S : Nat → Prop) (s : St) where
 i : Nat
 l : Lin
 la : Option Addr
 lc : Nat
 ca : Option Addr
 cc : Nat
 row : s.lines[i]? = some l
 hl : jJ false w0 S (.slice la l.lists.length lc) l.lists
 hc : jE false w0 S (.slice ca l.cells.length cc) l.cells
def zAu {w0 : World} {S : Nat → Prop} {s : St} (x : SelX w0 S s) : Array Value := #[.int .i64 x.i, linV x.l (.slice x.la x.l.lists.length x.lc) (.slice x.ca x.l.cells.length x.cc)]
theorem zDg (va : Option Addr) (vn vc : Nat) (s : St) (w : World) :
  Calls zV 113 #[stV (.slice va vn vc) s] w fun e w' => e = .returned (.func (.func 196) #[] #[.pointer (some ⟨w.heap.size, 0, none⟩)]) ∧
   w' = w.alloc (.cells #[.slice va vn vc, .int .i64 s.anc.line, .int .i64 s.anc.col, .int .i64 s.foc.line, .int .i64 s.foc.col, .int .i64 s.on, .int .i64 s.off] 26) := by
 go_enter Tryz.func113, Tryz.ntmps113;go_wp2_with fail;go_ret;exact ⟨rfl, rfl⟩
set_option maxRecDepth 200000 in
theorem zEf (n l Bs base : Nat) (v : Value) (s : St) (i j : Nat) (S : Nat → Prop) (w0 W : World) (J Jx : List (SelX w0 S s) → World → Prop) (hv : jD w0 S v s.lines) (hb0 : Below w0.heap.size w0 W)
  (hbase : base ≤ Bs) (hbw : base ≤ W.heap.size) (hA : W.heap[Bs]? = some (.cells #[v, .int .i64 s.anc.line, .int .i64 s.anc.col, .int .i64 s.foc.line, .int .i64 s.foc.col, .int .i64 s.on, .int .i64 s.off] 26))
  (hi : (qV s).1.line = (i : Int)) (hj : (qV s).2.line = (j : Int)) (hij : i ≤ j) (hjl : j < s.lines.length) (hlen : s.lines.length ≤ 100000) (hJ : AbidesFrom W.heap.size J)
  (hY : ∀ (pre : List (SelX w0 S s)) (x : SelX w0 S s) W, J pre W → pre.length < 200000 → YieldAt Fence.wide (n - 1) zV l (zAu x) W fun e W' =>
   (e = .returned (.bool true) ∧ J (pre ++ [x]) W' ∧ Kp w0.heap.size base W W') ∨ (e = .returned (.bool false) ∧ Jx (pre ++ [x]) W'))
  (h0 : J [] W) :
  CallsIn Fence.wide n zV 196 #[.func (.yield l) #[] #[], .pointer (some ⟨Bs, 0, none⟩)] W fun e W' => (∃ v, e = .returned v) ∧
   ((∃ ys : List (SelX w0 S s), ys.map (·.i) = List.range' i (j + 1 - i) ∧ J ys W') ∨ (∃ pre : List (SelX w0 S s), (pre.map (·.i) = List.range' i pre.length ∧ pre.length ≤ j + 1 - i) ∧ Jx pre W')) := by
 refine callsIn_of_wp Tryz.func196 rfl trivial ?_ rfl;simp only [Tryz.ntmps196, List.size_toArray, List.length_cons, List.length_nil, Nat.reduceAdd, Nat.reduceSub, Array.replicate_succ, Array.replicate_zero, List.push_toArray, List.append_toArray, List.nil_append, List.cons_append];have hwf : ∀ f, Fence.wide.fn f := fun _ => trivial;have hwd : Fence.wide.depth = none := rfl;obtain ⟨va, vc, rfl, hvc, hvm, hx⟩ := xA hv;have HX := zA hx;have HY := zA hY;have HJA := zA hJ;have HBS := zA hA;have HB0 := zA hb0
 have HSp : Hid (∀ W, Calls zV 114 #[stV (.slice va s.lines.length vc) s] W fun e w' => e = .returned (.tuple #[.agg #[.int .i64 i, .int .i64 (qV s).1.col], .agg #[.int .i64 j, .int .i64 (qV s).2.col]]) ∧ Below W.heap.size W w') := zA fun W => by
  have := zAm (.slice va s.lines.length vc) s W;rw [hi, hj] at this;exact this
 obtain ⟨ci, hci⟩ : ∃ c, (qV s).1.col = c := ⟨_, rfl⟩;obtain ⟨cj, hcj⟩ : ∃ c, (qV s).2.col = c := ⟨_, rfl⟩;rw [hci, hcj] at HSp;obtain ⟨p1, f1⟩ := blk hA;unfold maxLen at hvm;clear hx hv hY hJ hA hi hj hci hcj
 gi_wp2_with (gi_at_call 114; refine (callsIn_wide.2 (HSp.out _)).mono ?_; rintro e W2 ⟨rfl, hb2⟩; have HB2 := zA hb2; clear hb2)
 obtain ⟨W3, hW3⟩ : ∃ W3, ((W2.alloc (.cells #[.int .i64 i, .int .i64 ci] 24)).alloc (.cells #[.int .i64 j, .int .i64 cj] 24)) = W3 := ⟨_, rfl⟩;rw [hW3];have hb3 : Below W.heap.size W W3 := hW3 ▸ (HB2.out.alloc HB2.out.size _).alloc (by have := HB2.out.size; simp; omega) _;have HF3 : Hid (W3.heap[W2.heap.size]? = some (.cells #[.int .i64 i, .int .i64 ci] 24) ∧ W3.heap[W2.heap.size + 1]? = some (.cells #[.int .i64 j, .int .i64 cj] 24)) := zA (hW3 ▸ ⟨zZ _ _ (jF _ _ rfl), jF _ _ qF⟩);have hz2 := HB2.out.size;have HJ3 := zA (zAU HJA.out h0 hb3);have HS3 := zA (zY hb3 HBS.out);have HB3 := zA (zX HB0.out hb3);have hz3 := hb3.size;have HZ3 := zA hz3;clear hW3 hb3 h0 hb0 p1 f1
 gi_loopw [5] (fun z wr => ∃ (k : Nat) (pre : List (SelX w0 S s)), i ≤ k ∧ k ≤ j + 1 ∧ i + pre.length = k ∧ z = .int .i64 k ∧ Hid (pre.map (·.i) = List.range' i pre.length) ∧ J pre wr ∧ Below w0.heap.size w0 wr ∧ Hid (wr.heap[Bs]? = some (.cells #[.slice va s.lines.length vc, .int .i64 s.anc.line, .int .i64 s.anc.col, .int .i64 s.foc.line, .int .i64 s.foc.col, .int .i64 s.on, .int .i64 s.off] 26) ∧ wr.heap[W2.heap.size]? = some (.cells #[.int .i64 i, .int .i64 ci] 24) ∧ wr.heap[W2.heap.size + 1]? = some (.cells #[.int .i64 j, .int .i64 cj] 24)) ∧ W.heap.size ≤ wr.heap.size)
  (fun z _ => j + 1 - (intOf z).toNat)
 case atStart => exact ⟨i, [], zC _, by omega, rfl, rfl, zA rfl, HJ3.out, HB3.out, zA ⟨HS3.out, HF3.out⟩, HZ3.out⟩
 case round =>
  obtain ⟨k, pre, hk1, hk2, hpl, rfl, HP, hJs, hb1, HBL, hz1⟩ := hrel;obtain ⟨p1, f1⟩ := blk HBL.out.1;obtain ⟨p2, f2⟩ := blk HBL.out.2.1;obtain ⟨p3, f3⟩ := blk HBL.out.2.2
  by_cases hlt : k ≤ j
  ·obtain ⟨l0, hl0, _⟩ := jP s.lines k qD
   obtain ⟨b, o, la, lc, ca, cc, rfl, hAk⟩ := HX.out k l0 hl0;obtain ⟨_, c0, c1, c2, c3, _, _⟩ := hAk.below hb1;have i0 : (0 : Int) ≤ (k : Int) := zR _;have i1 : (k : Int) < (s.lines.length : Int) := by omega
   have i2 : (k : Int) ≤ (j : Int) := by omega
   have hYY := HY.out pre ⟨k, l0, la, lc, ca, cc, hl0, hAk.listsR, hAk.cellsR⟩ wr hJs qD
   have HNX : Hid (∀ w7, J (pre ++ [⟨k, l0, la, lc, ca, cc, hl0, hAk.listsR, hAk.cellsR⟩]) w7 → Kp w0.heap.size base wr w7 → ∃ (k' : Nat) (pre : List (SelX w0 S s)), i ≤ k' ∧ k' ≤ j + 1 ∧ i + pre.length = k' ∧ k' = k + 1 ∧ Hid (pre.map (·.i) = List.range' i pre.length) ∧ J pre w7 ∧ Below w0.heap.size w0 w7 ∧ Hid (w7.heap[Bs]? = some (.cells #[.slice (some ⟨b, o, none⟩) s.lines.length vc, .int .i64 s.anc.line, .int .i64 s.anc.col, .int .i64 s.foc.line, .int .i64 s.foc.col, .int .i64 s.on, .int .i64 s.off] 26) ∧ w7.heap[W2.heap.size]? = some (.cells #[.int .i64 i, .int .i64 ci] 24) ∧ w7.heap[W2.heap.size + 1]? = some (.cells #[.int .i64 j, .int .i64 cj] 24)) ∧ W.heap.size ≤ w7.heap.size) := zA (by
    intro w7 hj7 hk7;refine ⟨k + 1, _, by omega, by omega, by simp; omega, rfl, zA ?_, hj7, hb1.trans hk7.below, zA ⟨hk7.cells _ _ hbase HBL.out.1 rfl, hk7.cells _ _ qD HBL.out.2.1 rfl, hk7.cells _ _ qD HBL.out.2.2 rfl⟩, Nat.le_trans hz1 hk7.below.size⟩;rw [List.map_append, HP.out, zS, List.length_singleton, zBJ];exact congrArg (List.range' i pre.length ++ ·) (by show [k] = [i + pre.length]; rw [hpl]))
   have HPX : Hid ((pre ++ [⟨k, l0, la, lc, ca, cc, hl0, hAk.listsR, hAk.cellsR⟩] : List (SelX w0 S s)).map (·.i) = List.range' i (pre ++ [⟨k, l0, la, lc, ca, cc, hl0, hAk.listsR, hAk.cellsR⟩] : List (SelX w0 S s)).length ∧ (pre ++ [⟨k, l0, la, lc, ca, cc, hl0, hAk.listsR, hAk.cellsR⟩] : List (SelX w0 S s)).length ≤ j + 1 - i) := zA ⟨by
    rw [List.map_append, HP.out, zS, List.length_singleton, zBJ];exact congrArg (List.range' i pre.length ++ ·) (by show [k] = [i + pre.length]; rw [hpl]), by rw [zS, List.length_singleton]; omega⟩
   generalize (pre ++ [⟨k, l0, la, lc, ca, cc, hl0, hAk.listsR, hAk.cellsR⟩] : List (SelX w0 S s)) = pre2 at *
   unfold zAu linV at hYY;obtain ⟨fn, tmps, assign, body, hy, hR⟩ := hYY;clear hJs
   gi_wp2_with fail
   refine hR.mono ?_;rintro e w7 (⟨rfl, hJ7, hk7⟩ | ⟨rfl, hJx7⟩)
   ·gi_wp2_with fail
    obtain ⟨k', pre', g1, g2, g3, e3, g4, g5, g6, g7, g8⟩ := HNX.out w7 hJ7 hk7;go_roundw
    case rel => exact ⟨k', pre', g1, g2, g3, by rw [e3]; go_num, g4, g5, g6, g7, g8⟩
    case measure => simp [intOf]; omega
   ·gi_wp2_with fail
    refine zM (results_none rfl _ _ _) rfl ?_;exact ⟨⟨_, rfl⟩, .inr ⟨_, HPX.out, hJx7⟩⟩
  ·have i2 : ¬ (k : Int) ≤ (j : Int) := by omega
   gi_wp2_with fail
   go_end0;refine ⟨⟨_, rfl⟩, .inl ⟨pre, ?_, hJs⟩⟩;rw [HP.out]
   congr 1
   omega
def TurnP (n B : Nat) (l : Lin) (cv : Value) (w : World) (r : Option Lin) (e : Ending) (w' : World) : Prop :=
 e = .returned (.bool r.isSome) ∧ (∃ q k a m c, w'.heap[B]? = some (.cells #[.int .i64 q, .slice a m c, .int .i64 k, cv] 60) ∧ ∀ l', r = some l' → l'.quote = q ∧ l'.kind = k ∧ l'.lists.length = m ∧ jJ true w' (fun b => n ≤ b) (.slice a m c) l'.lists ∧ l'.cells = l.cells) ∧
  (∀ b, b ≠ B → b < w.heap.size → (∀ cs, w.heap[b]? ≠ some (.cells cs 3)) → w'.heap[b]? = w.heap[b]?) ∧ w.heap.size ≤ w'.heap.size ∧ ∀ m, m ≤ n → m ≤ B → Below m w w'
set_option maxRecDepth 100000 in
theorem zDy (g : Nat) (caps : Array Value) (r : Option Lin) (eg : ∀ args w, (callFunc g args).run zV w = .ok (.enter g args) w)
  (l : Lin) (la ca : Option Addr) (lc cc : Nat) (w w0 : World) (S : Nat → Prop) (hL : jJ false w0 S (.slice la l.lists.length lc) l.lists) (hC : jE false w0 S (.slice ca l.cells.length cc) l.cells) (h0 : Below w0.heap.size w0 w)
  (he : EnvT w) (hs : l.lists.length ≤ 1000000 ∧ l.cells.length ≤ 1000000) (hh : ∀ c ∈ l.cells, c.href.length ≤ 1000000) (hm : mayL l = true)
  (HT : ∀ (n B : Nat) (la : Option Addr) (lc : Nat) (cv : Value) (W : World), Below w.heap.size w W → w.heap.size ≤ B → B < n → n ≤ W.heap.size → jJ true W (fun b => n ≤ b) (.slice la l.lists.length lc) l.lists → W.heap[B]? = some (.cells #[.int .i64 l.quote, .slice la l.lists.length lc, .int .i64 l.kind, cv] 60) →
   Calls zV g (#[.pointer (some ⟨B, 0, none⟩)] ++ caps) W (TurnP n B l cv W r)) :
  Calls zV 229 #[linV l (.slice la l.lists.length lc) (.slice ca l.cells.length cc), .func (.func g) #[] caps] w (vR w r) := by
 obtain ⟨W1, hW1, hB, hz, hA1, hA2⟩ := zAo w (.int .i64 l.quote) (.slice la l.lists.length lc) (.int .i64 l.kind) (.slice ca l.cells.length cc) (.int .i64 0) (.slice none 0 0) (.int .i64 0) (.slice none 0 0);have h01 : Below w0.heap.size w0 W1 := zX h0 hB;have HM := zA (zCt l la ca lc cc W1 w0 S hL hC (he.below hB) h01 hh);rw [hm] at HM;have HO : Hid (∀ W, Below w0.heap.size w0 W → Calls zV 134 #[linV l (.slice la l.lists.length lc) (.slice ca l.cells.length cc)] W fun e w' => ∃ a' b', e = .returned (linV l a' b') ∧ jJ true w' (fun b => W.heap.size ≤ b) a' l.lists ∧ jE true w' (fun b => W.heap.size ≤ b) b' l.cells ∧ Below W.heap.size W w') := zA fun W hW => zBF l _ _ false false W w0 S hL hC hW hs;have HG := zA HT;have hs1 := hB.size;have HB0 : Hid (∀ W, Below W1.heap.size W1 W → W.heap[w.heap.size]? = some (.cells #[.int .i64 l.quote, .slice la l.lists.length lc, .int .i64 l.kind, .slice ca l.cells.length cc] 60) ∧ W.heap[w.heap.size + 1]? = some (.cells #[.int .i64 0, .slice none 0 0, .int .i64 0, .slice none 0 0] 60)) := zA fun W hW => ⟨zY hW hA1, zY hW hA2⟩;have H1 := zA hB;have H01 := zA h01;obtain ⟨p1, f1⟩ := blk hA1;obtain ⟨p2, f2⟩ := blk hA2;clear hL hC hs hB h0 HT hm he h01;unfold linV at HO ⊢;go_enter Tryz.func229, Tryz.ntmps229;go_wp2_with (first | (go_at_call 131; refine HM.out.mono ?_; rintro e w2 ⟨rfl, hb2⟩; obtain ⟨hA3, hA4⟩ := HB0.out _ hb2; obtain ⟨q0, g0⟩ := blk hA3; obtain ⟨q1, g1⟩ := blk hA4) | (go_at_call 134; refine (HO.out _ (zX H01.out hb2)).mono ?_; rintro e w3 ⟨a', b', rfl, ha', hb', hb3⟩; obtain ⟨a1, c1, rfl⟩ := ha'.slice; obtain ⟨a2, c2, rfl⟩ := hb'.slice; obtain ⟨hA5, hA6⟩ := HB0.out _ (zX hb2 hb3); obtain ⟨p3, f3⟩ := blk hA5; obtain ⟨p4, f4⟩ := blk hA6));obtain ⟨Y, hY, hYB, hYs, hYo, hYb⟩ := kA w3 w.heap.size 60 _ _ _ _ (.int .i64 l.quote) (.slice a1 l.lists.length c1) (.int .i64 l.kind) (.slice a2 l.cells.length c2) hA5;have hx2 := zX H1.out hb2;have hx3 : Below w.heap.size w w3 := zX hx2 hb3;have hn3 : w.heap.size + 2 ≤ w2.heap.size := by have := hb2.size; omega
 have hle3 := hb3.size;have hiY : jJ true Y (fun b => w2.heap.size ≤ b) (.slice a1 l.lists.length c1) l.lists := qH (qC _) ha' (Keeps.only hYs hYo jB) (fun b h _ => h);have hcY : jE true Y (fun b => w2.heap.size ≤ b) (.slice a2 l.cells.length c2) l.cells := qH (qC _) hb' (Keeps.only hYs hYo jB) (fun b h _ => h);have hcl := hiY.len;rw [hY];have hA7 : Y.heap[w.heap.size + 1]? = some (.cells #[.int .i64 0, .slice none 0 0, .int .i64 0, .slice none 0 0] 60) := (hYo _ qD).trans hA6;have hYx : Below w.heap.size w Y := hYb _ (zC _) w hx3;refine (HG.out w2.heap.size w.heap.size a1 c1 (.slice a2 l.cells.length c2) Y hYx (zC _) qD qD hiY hYB).mono ?_;rintro e w4 ⟨rfl, ⟨q, k, na, m, c, h4, hl4⟩, ho4, hz4, hb4⟩;have hA8 := (ho4 (w.heap.size + 1) qD qD (fun cs e => by rw [hA7] at e; cases e)).trans hA7;have hc4 : jE true w4 (fun b => w2.heap.size ≤ b) (.slice a2 l.cells.length c2) l.cells := SliceR.tagged (jM 3 kX) qW hcY hz4 (fun b hb hz ht => ho4 b zEx hz ht) (fun b h _ => h);have hx4 : Below w.heap.size w w4 := hYx.trans (hb4 _ qD (zC _));have HCC := zA hc4;have HX4 := zA hx4;clear hc4 hx4 hiY hcY hYB hYo hYb ha' hb' ho4 hb4 HG HO HM hx2 hx3 hYx;obtain ⟨p5, f5⟩ := blk h4;obtain ⟨p6, f6⟩ := blk hA8;clear p1 f1 p2 f2 q0 g0 q1 g1 p3 f3 p4 f4 hY;cases r with
 | none =>
  go_wp2_with fail;refine zM (xO rfl _ _ (w.heap.size + 1) (.int .i64 0) (.slice none 0 0) (.int .i64 0) (.slice none 0 0) rfl (by simp [qT, jA, hA8])) rfl ?_;refine ⟨fun l' h => kY, fun _ => rfl, ?_⟩;have := HX4.out
  ((with_reducible repeat' first | exact zE _ _ | assumption | refine zG ?_ ?_ _ | refine zH ?_ | refine qR ?_ | refine zF ?_ ?_ _) <;> go_size)
 | some l' =>
  obtain ⟨rfl, rfl, rfl, e5, e6⟩ := hl4 l' rfl;have HE := zA (zB e5 e6);have hml := e5.len;clear hl4 e5 e6;go_wp2_with fail;refine zM (xO rfl _ _ (w.heap.size + 1) (.int .i64 l'.quote) (.slice na l'.lists.length c) (.int .i64 l'.kind) (.slice a2 l.cells.length c2) rfl (by simp [qT, jA, hA8])) rfl ?_;refine ⟨fun l'' h => ?_, fun h => kY, ?_⟩
  ·cases h
   refine ⟨_, _, rfl, ?_, ?_⟩
   ·have hh := HE.out.1
    exact (qH (qC _) hh jN (fun b h _ => jL))
   ·rw [HE.out.2]
    have hh := HCC.out;exact (qH (qC _) hh jN (fun b h _ => jL))
  ·have := HX4.out
   ((with_reducible repeat' first | exact zE _ _ | assumption | refine zG ?_ ?_ _ | refine zH ?_ | refine qR ?_ | refine zF ?_ ?_ _) <;> go_size)
theorem blkT {w : World} {B : Nat} {cs : Array Value} {t : TypeId} (h : w.heap[B]? = some (.cells cs t)) : (∀ X k, (w.alloc X).cell? ⟨B, k, none⟩ = cs[k]?) ∧ (∀ X k, (w.alloc X).frozen? ⟨B, k, none⟩ = false) :=
 ⟨fun X _ => jT (zZ _ X h), fun X _ => xY (zZ _ X h)⟩
theorem TurnP.own {n B : Nat} {l : Lin} {cv : Value} {w w' : World} {r : Option Lin} {e : Ending} {a : Option Addr} {m c : Nat} (q k : Int) (he : e = .returned (.bool r.isSome)) (hB : w'.heap[B]? = some (.cells #[.int .i64 q, .slice a m c, .int .i64 k, cv] 60))
  (hl : ∀ l', r = some l' → l'.quote = q ∧ l'.kind = k ∧ l'.lists.length = m ∧ jJ true w' (fun b => n ≤ b) (.slice a m c) l'.lists ∧ l'.cells = l.cells) (ho : ∀ b, b ≠ B → w'.heap[b]? = w.heap[b]?) (hs : w'.heap.size = w.heap.size) (hb : ∀ m, m ≤ B → Below m w w') : TurnP n B l cv w r e w' :=
 ⟨he, ⟨q, k, a, m, c, hB, hl⟩, fun b hb _ _ => ho b hb, Nat.le_of_eq hs.symm, fun m _ hm => hb m hm⟩
set_option maxRecDepth 100000 in
theorem zFo (n B Bk : Nat) (l : Lin) (kind : Int) (la : Option Addr) (lc : Nat) (cv : Value) (W : World) (hBn : B < n) (hne : Bk ≠ B) (hk : W.heap[Bk]? = some (.cells #[.int .i64 kind] 3)) (h : jJ true W (fun b => n ≤ b) (.slice la l.lists.length lc) l.lists) (hB : W.heap[B]? = some (.cells #[.int .i64 l.quote, .slice la l.lists.length lc, .int .i64 l.kind, cv] 60)) :
  Calls zV 292 #[.pointer (some ⟨B, 0, none⟩), .pointer (some ⟨Bk, 0, none⟩)] W (TurnP n B l cv W (yE kind l)) := by
 obtain ⟨p0, f0⟩ := blk hB;obtain ⟨p1, f1⟩ := blk hk;have v1 : ¬ B = Bk := fun e => hne e.symm;have v2 : ¬ Bk = B := hne;have hlen := h.len;have HB := zA hB;have HI := zA h;have HR := zA (show yE kind l = if l.lists ≠ [] ∨ l.kind = kind then none else some { l with kind := kind } from rfl);clear h hB hk
 by_cases e1 : l.lists = []
 ·have hl0 : (((l.lists.length : Nat) : Int) == 0) = true := by rw [e1]; rfl
  by_cases e2 : l.kind = kind
  ·have hk0 : (l.kind != kind) = false := by simp [e2]
   have HR : Hid (yE kind l = none) := zA (HR.out.trans (if_pos (.inr e2)));clear e1 e2;go_enter Tryz.func292, Tryz.ntmps292;go_wp2_with fail;go_ret;rw [HR.out];exact TurnP.own (a := la) (m := l.lists.length) (c := lc) l.quote kind rfl (by simp [qT, jA, HB.out]) (fun _ e => by cases e) (fun b hb => by simp [qT, Ne.symm hb]) qF (fun m hm => (zE _ _).setCell hm _)
  ·have hk0 : (l.kind != kind) = true := by simp [e2]
   have HR : Hid (yE kind l = some { l with kind := kind }) := zA (HR.out.trans (if_neg (fun h => h.elim (fun h => h e1) (fun h => e2 h))));clear e1 e2;go_enter Tryz.func292, Tryz.ntmps292;go_wp2_with fail;go_ret;rw [HR.out];refine TurnP.own (a := la) (m := l.lists.length) (c := lc) l.quote kind rfl (by simp [qT, jA, HB.out]) ?_ (fun b hb => by simp [qT, Ne.symm hb]) qF (fun m hm => (zE _ _).setCell hm _);intro l' hl';cases hl';exact ⟨rfl, rfl, rfl, qH (qC _) HI.out zCT (fun b h _ => h), rfl⟩
 ·have hl0 : (((l.lists.length : Nat) : Int) == 0) = false := by
   have : l.lists.length ≠ 0 := fun e2 => e1 (List.length_eq_zero_iff.1 e2);exact beq_false_of_ne qD
  have HR : Hid (yE kind l = none) := zA (HR.out.trans (if_pos (.inl e1)));clear e1;go_enter Tryz.func292, Tryz.ntmps292;go_wp2_with fail;go_ret;rw [HR.out];exact TurnP.own (a := la) (m := l.lists.length) (c := lc) l.quote kind rfl (by simp [qT, jA, HB.out]) (fun _ e => by cases e) (fun b hb => by simp [qT, Ne.symm hb]) qF (fun m hm => (zE _ _).setCell hm _)
theorem zIf {w w' : World} {S : Nat → Prop} {v : Value} {xs : List Int} (h : jJ true w S v xs) (hne : xs ≠ []) (hg : w.grownBy w' v.ownBlock) : ∀ b, b < w.heap.size → (¬ S b ∨ ∀ cs, w.heap[b]? ≠ some (.cells cs 3)) → w'.heap[b]? = w.heap[b]? := fun b hb hno => by
 obtain ⟨a, c, rfl, _, _, hx⟩ := h;rcases hx with ⟨rfl, _⟩ | ⟨b0, o0, rfl, hS, _, hf, _⟩
 ·exact absurd rfl hne
 ·obtain ⟨cs, h1, _⟩ := hf rfl
  refine hg.block b hb (fun e => ?_);have e : some b = some b0 := e;cases e;exact hno.elim (fun h => h hS) (fun h => h cs h1)
theorem zMt (w : World) (k : Int) {S : Nat → Prop} (hS : S w.heap.size) : jJ true (w.alloc (.cells #[.int .i64 k] 3)) S (.slice (some ⟨w.heap.size, 0, none⟩) 1 1) [k] := by
 refine ⟨_, 1, rfl, by simp, by decide, .inr ⟨w.heap.size, 0, rfl, hS, by simp, fun _ => ⟨_, jF _ _ rfl, by simp⟩, fun i x hx => ?_⟩⟩
 match i, hx with
 | 0, hx =>
  cases hx
  exact ⟨_, rfl, rfl, fun j u hu => by
   rw [jT (jF _ _ rfl), Nat.zero_mul, Nat.zero_add]
   simpa [yZ] using hu⟩
theorem zMl (k : Int) : ∀ u ∈ [Value.int .i64 k], u.oneCell' = true := fun u hu => by simp at hu; subst hu; rfl
set_option maxRecDepth 100000 in
theorem zJv (n B : Nat) (l : Lin) (la : Option Addr) (lc : Nat) (cv : Value) (W : World) (hm : mayL l = true) (hBn : B < n) (hnW : n ≤ W.heap.size) (h : jJ true W (fun b => n ≤ b) (.slice la l.lists.length lc) l.lists) (hB : W.heap[B]? = some (.cells #[.int .i64 l.quote, .slice la l.lists.length lc, .int .i64 l.kind, cv] 60)) :
  Calls zV 255 #[.pointer (some ⟨B, 0, none⟩)] W (TurnP n B l cv W (vG l)) := by
 obtain ⟨hq0, hq6, hl6, _⟩ := zAV hm;have HC := zA (zCo B l.quote l.kind l.lists la lc cv W _ (SliceR.read (fun _ _ h => h) h) hB);have hlen := h.len
 by_cases hn : l.lists = []
 ·have HR : Hid (vG l = if l.quote = 6 then none else some { l with quote := l.quote + 1 }) := zA (by unfold vG; rw [if_neg (fun e => e hn)])
  have hla : xE l.lists = -1 := by rw [hn]; rfl
  rw [hla] at HC;have HB := zA hB;have HI := zA h;have w1 : IntKind.i64.wrap (l.quote + 1) = l.quote + 1 := IntWalk.i64_in _ qD;clear h hB hn hlen hla;go_enter Tryz.func255, Tryz.ntmps255;go_wp2_with (go_at_call 256; refine HC.out.mono ?_; rintro e w2 ⟨rfl, hb2, hh2⟩; have HW2 := zA (zB hb2 hh2); have HB2 : Hid (w2.heap[B]? = _) := zA (hh2 ▸ HB.out); clear hb2 hh2; obtain ⟨p0, f0⟩ := blk HB2.out);go_ret;rw [HR.out];have hI2 : jJ true w2 (fun b => n ≤ b) (.slice la l.lists.length lc) l.lists := qJ (qC _) HI.out HW2.out.1;refine ⟨?_, ⟨l.quote + 1, l.kind, la, l.lists.length, lc, by simp [qT, jA, HB2.out], ?_⟩, fun b hb _ _ => by simp [qT, Ne.symm hb, HW2.out.2], by simp [HW2.out.2], fun m _ hm => (HW2.out.1.mono (by have := hnW; omega)).setCell hm _⟩
  ·by_cases e : l.quote = 6
   ·rw [if_pos e]; simp [e]
   ·rw [if_neg e]; simp; omega
  ·intro l' hl'
   split at hl'
   ·cases hl'
   ·cases hl'
    exact ⟨rfl, rfl, rfl, qH (qC _) hI2 zCT (fun b h _ => h), rfl⟩
 ·have HR : Hid (vG l = if l.lists.length = 6 then none else some { l with lists := l.lists ++ [xE l.lists] }) := zA (by unfold vG; rw [if_pos hn])
  have hlf := zCB hm hn;obtain ⟨k, hk⟩ : ∃ k, xE l.lists = k := ⟨_, rfl⟩;rw [hk] at HC HR hlf;have HB := zA hB;have HI := zA h;have HN := zA hn;have HL : Hid (l.lists.length + [k].length ≤ 100000000) := zA jB;have hk0 : ¬ k < 0 := by omega
  clear h hB hn hlen hk;go_enter Tryz.func255, Tryz.ntmps255
  go_wp2_with (first
   | (go_at_call 256; refine HC.out.mono ?_; rintro e w2 ⟨rfl, hb2, hh2⟩; have HW2 := zA (zB hb2 hh2); have HB2 : Hid (w2.heap[B]? = _) := zA (hh2 ▸ HB.out); have hz2 : W.heap.size ≤ w2.heap.size := (by rw [hh2]; exact zC _); clear hb2 hh2; obtain ⟨p0, f0⟩ := blk HB2.out)
   | (at_builtin; refine zAj _ rfl _ _ 52 52 rfl zCP zBW n _ _ (xs := l.lists) (ys := [k]) (news := [.int .i64 k]) rfl rfl (qJ (qC _) (qJ (qC _) HI.out HW2.out.1) ((zE _ _).alloc (zC _) _)) jB (zBl zCP _ _ rfl (zMl k) 1 rfl) (NewsR.one rfl rfl) HL.out ?_; intro v' w3 hR hB' hg _; obtain ⟨a3, c3, hv3⟩ := hR.slice; subst hv3; have HR3 := zA hR; have HB3 := zA hB'; have HG3 := zA (zIf (qJ (qC _) (qJ (qC _) HI.out HW2.out.1) ((zE _ _).alloc (zC _) _)) HN.out hg); have j3 := (HG3.out B jB (.inl qD)).trans (zZ _ _ HB2.out); have HJ3 := zA j3; obtain ⟨p3, f3⟩ := blk j3; clear hR hB' hg j3))
  go_ret;rw [HR.out];have hr3 := HR3.out;rw [zS, List.length_singleton] at hr3;refine ⟨?_, ⟨l.quote, l.kind, a3, l.lists.length + 1, c3, by simp [qT, jA, HJ3.out], ?_⟩, fun b hb hz hno => ?_, ?_, fun m hm1 hm2 => ?_⟩
  ·by_cases e : l.lists.length = 6
   ·rw [if_pos e]; simp [e]
   ·rw [if_neg e]; simp; omega
  ·intro l' hl'
   split at hl'
   ·cases hl'
   ·cases hl'
    exact ⟨rfl, rfl, by simp, qH (qC _) hr3 zCT (fun b h _ => h), rfl⟩
  ·rw [qT, if_neg (Ne.symm hb)]
   have e1 : (w2.alloc (.cells #[.int .i64 k] 3)).heap[b]? = W.heap[b]? := by
    rw [Array.getElem?_eq_getElem hz];exact zZ _ _ (by rw [HW2.out.2]; exact Array.getElem?_eq_getElem hz)
   exact (HG3.out b jB (.inr (fun cs => by rw [e1]; exact hno cs))).trans e1
  ·have := HB3.out.size
   simp at this ⊢
   omega
  ·exact (((HW2.out.1.mono qD).alloc qD _).trans (HB3.out.mono hm1)).setCell hm2 _
set_option maxRecDepth 100000 in
theorem zGm (n B Bk : Nat) (l : Lin) (kind : Int) (la : Option Addr) (lc : Nat) (cv : Value) (W : World) (hm : mayL l = true) (hBn : B < n) (hne : Bk ≠ B) (hBk : Bk < n) (hnW : n ≤ W.heap.size) (hk : W.heap[Bk]? = some (.cells #[.int .i64 kind] 3)) (h : jJ true W (fun b => n ≤ b) (.slice la l.lists.length lc) l.lists) (hB : W.heap[B]? = some (.cells #[.int .i64 l.quote, .slice la l.lists.length lc, .int .i64 l.kind, cv] 60)) :
  Calls zV 293 #[.pointer (some ⟨B, 0, none⟩), .pointer (some ⟨Bk, 0, none⟩)] W (TurnP n B l cv W (xW kind l)) := by
 obtain ⟨hq0, hq6, hl6, _⟩ := zAV hm;have HC := zA (zCo B l.quote l.kind l.lists la lc cv W _ (SliceR.read (fun _ _ h => h) h) hB);have v1 : ¬ B = Bk := fun e => hne e.symm;have v2 : ¬ Bk = B := hne
 by_cases hn : l.lists = []
 ·have HR : Hid (xW kind l = some { l with lists := [kind], kind := 0 }) := zA (by unfold xW; rw [if_pos hn])
  have hla : xE l.lists = -1 := by rw [hn]; rfl
  rw [hla] at HC;have HB := zA hB;have HK := zA hk;clear h hB hk hn hla;go_enter Tryz.func293, Tryz.ntmps293;go_wp2_with (go_at_call 256; refine HC.out.mono ?_; rintro e w2 ⟨rfl, hb2, hh2⟩; have HW2 := zA (zB hb2 hh2); have HB2 : Hid (w2.heap[B]? = _) := zA (hh2 ▸ HB.out); have hz2 : W.heap.size ≤ w2.heap.size := (by rw [hh2]; exact zC _); obtain ⟨p1, f1⟩ := blk (show w2.heap[Bk]? = _ from hh2 ▸ HK.out); have v3 : ¬ w2.heap.size = B := qD; have v4 : ¬ B = w2.heap.size := qD; clear hb2 hh2; obtain ⟨p0, f0⟩ := blk HB2.out; obtain ⟨t0, u0⟩ := blkT HB2.out);go_ret;rw [HR.out];have hs2 : w2.heap.size = W.heap.size := by rw [HW2.out.2]
  refine ⟨rfl, ⟨l.quote, 0, some ⟨w2.heap.size, 0, none⟩, 1, 1, by simp [qT, jA, zZ _ (.cells #[.int .i64 kind] 3) HB2.out], ?_⟩, fun b hb hz hno => ?_, by simp; omega, fun m hm1 hm2 => ?_⟩
  ·intro l' hl'
   cases hl';exact ⟨rfl, rfl, rfl, qH (qC _) (zMt w2 kind (S := fun b => n ≤ b) (by show n ≤ w2.heap.size; omega)) zCT (fun b h _ => h), rfl⟩
  ·rw [qT, if_neg (Ne.symm hb), qT, if_neg (Ne.symm hb), Array.getElem?_eq_getElem hz]
   exact zZ _ _ (by rw [HW2.out.2]; exact Array.getElem?_eq_getElem hz)
  ·exact (((HW2.out.1.mono qD).alloc qD _).setCell hm2 _).setCell hm2 _
 ·obtain ⟨i, hil⟩ : ∃ i, l.lists.length = i + 1 := ⟨l.lists.length - 1, by have := List.length_pos_iff.2 hn; omega⟩
  obtain ⟨x, hx0, _⟩ := jP l.lists i qD
  have hlx : xE l.lists = x := by
   unfold xE;rw [List.getLastD_eq_getLast?, List.getLast?_eq_getElem?, hil, Nat.add_sub_cancel, hx0]
   rfl
  have hlf := zCB hm hn
  have hset : l.lists.dropLast ++ [kind] = l.lists.set i kind := by
   apply List.ext_getElem?
   intro j
   by_cases hj : j = i
   ·subst hj
    rw [List.getElem?_set_self qD, List.getElem?_append_right jB];simp [hil]
   ·rw [List.getElem?_set_ne (Ne.symm hj)]
    by_cases hj2 : j < i
    ·rw [List.getElem?_append_left jB, List.getElem?_dropLast, if_pos qD]
    ·rw [List.getElem?_eq_none jB, List.getElem?_eq_none qD]
  have HR : Hid (xW kind l = if x = kind then none else some { l with lists := l.lists.set i kind }) := zA (by unfold xW; rw [if_neg hn, hlx, hset]);rw [hlx] at HC hlf;obtain ⟨b0, o0, cs0, hla, hS0, hc0, hz0⟩ := SliceR.cellAt h (i := i) qD;subst hla;have hb0 : n ≤ b0 := hS0;obtain ⟨a9, c9, he9, _, _, hx9⟩ := zAH (SliceR.read (fun _ _ h => h) h);cases he9;obtain ⟨b9, o9, he9, hz9, hc9⟩ := hx9 i x hx0;cases he9;have HC9 := zA (zB hz9 hc9);clear hx9 hz9 hc9;have HI := zA h;have HB := zA hB;have HK := zA hk;have HX := zA hx0;have HIL := zA hil;have HC0 := zA hc0;have hlen := h.len;unfold maxLen at hlen;have q0 : ¬ x < 0 := by omega
  have n0 : (0 : Int) ≤ (i : Int) := zR _;have n1 : (i : Int) < ((i + 1 : Nat) : Int) := by omega
  have e1 : IntKind.i64.wrap (((i + 1 : Nat) : Int) - 1) = (i : Int) := by rw [show (((i + 1 : Nat) : Int) - 1) = (i : Int) by omega]; exact IntWalk.i64_in _ qD
  have e2 : wrap64 (i : Int) = (i : Int) := IntWalk.wrap64_in _ qD;have v3 : ¬ b0 = B := by omega
  have v4 : ¬ b0 = Bk := by omega
  have v5 : ¬ B = b0 := by omega
  have v6 : ¬ Bk = b0 := by omega
  rw [hil] at HB;clear h hB hk hx0 hlx hset hn hc0 hz0 hS0 hil hlen;go_enter Tryz.func293, Tryz.ntmps293;go_wp2_with (go_at_call 256; refine HC.out.mono ?_; rintro e w2 ⟨rfl, hb2, hh2⟩; have HW2 := zA (zB hb2 hh2); have HB2 : Hid (w2.heap[B]? = _) := zA (hh2 ▸ HB.out); obtain ⟨p1, f1⟩ := blk (show w2.heap[Bk]? = _ from hh2 ▸ HK.out); have f2 := (blk (show w2.heap[b0]? = _ from hh2 ▸ HC0.out)).2; have c9 := (hb2.cell (p := ⟨b0, o0 + i, none⟩) HC9.out.1).trans HC9.out.2; clear hb2 hh2; obtain ⟨p0, f0⟩ := blk HB2.out);go_region;go_wp2_with fail;go_ret;rw [HR.out];have hI2 : jJ true w2 (fun b => n ≤ b) (.slice (some ⟨b0, o0, none⟩) l.lists.length lc) l.lists := qJ (qC _) HI.out HW2.out.1;have hw := SliceR.set1 zBW.tag hI2 HX.out (j := 0) (x' := kind) qW (.int .i64 kind) (by rintro vs _ rfl; rfl);rw [Nat.mul_one, Nat.add_zero] at hw;have hlen2 : (l.lists.set i kind).length = l.lists.length := List.length_set;refine ⟨?_, ⟨l.quote, l.kind, some ⟨b0, o0, none⟩, l.lists.length, lc, ?_, ?_⟩, fun b hb hz hno => ?_, by simp [HW2.out.2], fun m hm1 hm2 => ?_⟩
  ·by_cases e : x = kind
   ·rw [if_pos e]; simp [e]
   ·rw [if_neg e]; simp [e]
  ·show (w2.setCell ⟨b0, o0 + i, none⟩ (.int .i64 kind)).heap[B]? = _
   rw [qT, if_neg v3, HIL.out];exact HB2.out
  ·intro l' hl'
   split at hl'
   ·cases hl'
   ·cases hl'
    exact ⟨rfl, rfl, hlen2, qJ (qC _) hw (zE _ _).drew, rfl⟩
  ·show (w2.setCell ⟨b0, o0 + i, none⟩ (.int .i64 kind)).heap[b]? = _
   rw [qT, if_neg (fun e : b0 = b => hno cs0 (e ▸ HC0.out)), HW2.out.2]
  ·exact ((HW2.out.1.mono qD).setCell (by show m ≤ b0; omega) _).drew
theorem zGn (w : World) (x1 x2 x3 x4 y1 y2 y3 y4 k : Value) : ∃ W1, ((w.alloc (.cells #[x1, x2, x3, x4] 60)).alloc (.cells #[k] 3)).alloc (.cells #[y1, y2, y3, y4] 60) = W1 ∧ Below w.heap.size w W1 ∧ w.heap.size + 3 = W1.heap.size ∧
  W1.heap[w.heap.size]? = some (.cells #[x1, x2, x3, x4] 60) ∧ W1.heap[w.heap.size + 1]? = some (.cells #[k] 3) ∧ W1.heap[w.heap.size + 2]? = some (.cells #[y1, y2, y3, y4] 60) :=
 ⟨_, rfl, (((zE _ _).alloc (zC _) _).alloc qF _).alloc jB _, by simp, zZ _ _ (zZ _ _ (jF _ _ rfl)), zZ _ _ (jF _ _ qF), jF _ _ qF⟩
set_option maxRecDepth 100000 in
theorem zHM (kind : Int) (l : Lin) (la ca : Option Addr) (lc cc : Nat) (w w0 : World) (S : Nat → Prop) (hk : 0 ≤ kind ∧ kind ≤ 3) (hL : jJ false w0 S (.slice la l.lists.length lc) l.lists) (hC : jE false w0 S (.slice ca l.cells.length cc) l.cells) (h0 : Below w0.heap.size w0 w)
  (he : EnvT w) (hs : l.lists.length ≤ 1000000 ∧ l.cells.length ≤ 1000000) (hh : ∀ c ∈ l.cells, c.href.length ≤ 1000000) (hm : mayL l = true) :
  Calls zV 254 #[linV l (.slice la l.lists.length lc) (.slice ca l.cells.length cc), .int .i64 kind] w (vR w (yE kind l)) := by
 obtain ⟨W1, hW1, hB, hz, hA1, hA0, hA2⟩ := zGn w (.int .i64 l.quote) (.slice la l.lists.length lc) (.int .i64 l.kind) (.slice ca l.cells.length cc) (.int .i64 0) (.slice none 0 0) (.int .i64 0) (.slice none 0 0) (.int .i64 kind)
 have HT := zA (zDy 292 #[.pointer (some ⟨w.heap.size + 1, 0, none⟩)] (yE kind l) (enters_of Tryz.func292 zT rfl) l la ca lc cc W1 w0 S hL hC (zX h0 hB) (he.below hB) hs hh hm (fun n B la lc cv W hW hB1 hBn hnW hi hBb => by
  have hk1 := zY hW hA0;have hne : w.heap.size + 1 ≠ B := by omega
  first
   | exact zFo n B (w.heap.size + 1) l kind la lc cv W hBn hne hk1 hi hBb
   | exact zGm n B (w.heap.size + 1) l kind la lc cv W hm hBn hne qD hnW hk1 hi hBb))
 have hs1 := hB.size;have HB0 : Hid (∀ W, Below W1.heap.size W1 W → W.heap[w.heap.size]? = some (.cells #[.int .i64 l.quote, .slice la l.lists.length lc, .int .i64 l.kind, .slice ca l.cells.length cc] 60) ∧ W.heap[w.heap.size + 1]? = some (.cells #[.int .i64 kind] 3) ∧ W.heap[w.heap.size + 2]? = some (.cells #[.int .i64 0, .slice none 0 0, .int .i64 0, .slice none 0 0] 60)) := zA fun W hW => ⟨zY hW hA1, zY hW hA0, zY hW hA2⟩;have H1 := zA hB;obtain ⟨p0, f0⟩ := blk hA0;obtain ⟨p1, f1⟩ := blk hA1;obtain ⟨p2, f2⟩ := blk hA2;obtain ⟨r, hr⟩ : ∃ r, yE kind l = r := ⟨_, rfl⟩;rw [hr] at HT ⊢;clear hL hC hs hB h0 hr hm he;unfold linV at HT ⊢;obtain ⟨k0, k3⟩ := hk;cases r with
 | none =>
  go_enter Tryz.func254, Tryz.ntmps254;go_wp2_with (go_at_call 229; refine HT.out.mono ?_; rintro e w2 ⟨_, he2, hb2⟩; obtain rfl := he2 rfl; obtain ⟨hA3, hA5, hA4⟩ := HB0.out _ hb2; obtain ⟨q0, g0⟩ := blk hA3; obtain ⟨q1, g1⟩ := blk hA4; obtain ⟨q2, g2⟩ := blk hA5);refine zM (xO rfl _ _ (w.heap.size + 2) (.int .i64 0) (.slice none 0 0) (.int .i64 0) (.slice none 0 0) rfl yT) rfl ?_;refine ⟨fun l' h => kY, fun _ => rfl, ?_⟩;have := H1.out.trans (hb2.mono hs1)
  ((with_reducible repeat' first | exact zE _ _ | assumption | refine zG ?_ ?_ _ | refine zH ?_ | refine qR ?_ | refine zF ?_ ?_ _) <;> go_size)
 | some l' =>
  go_enter Tryz.func254, Tryz.ntmps254;go_wp2_with (go_at_call 229; refine HT.out.mono ?_; rintro e w2 ⟨he2, _, hb2⟩; obtain ⟨a', b', rfl, ha', hb'⟩ := he2 _ rfl; obtain ⟨a1, c1, rfl⟩ := ha'.slice; obtain ⟨a2, c2, rfl⟩ := hb'.slice; obtain ⟨hA3, hA5, hA4⟩ := HB0.out _ hb2; obtain ⟨q0, g0⟩ := blk hA3; obtain ⟨q1, g1⟩ := blk hA4; obtain ⟨q2, g2⟩ := blk hA5);refine zM (xO rfl _ _ (w.heap.size + 2) (.int .i64 l'.quote) (.slice a1 l'.lists.length c1) (.int .i64 l'.kind) (.slice a2 l'.cells.length c2) rfl yT) rfl ?_;refine ⟨fun l'' h => ?_, fun h => kY, ?_⟩
  ·cases h
   exact ⟨_, _, rfl, (qH (qC _) ha' jN (fun b h _ => jL)), (qH (qC _) hb' jN (fun b h _ => jL))⟩
  ·have := H1.out.trans (hb2.mono hs1)
   ((with_reducible repeat' first | exact zE _ _ | assumption | refine zG ?_ ?_ _ | refine zH ?_ | refine qR ?_ | refine zF ?_ ?_ _) <;> go_size)
set_option maxRecDepth 100000 in
theorem zIz (kind : Int) (l : Lin) (la ca : Option Addr) (lc cc : Nat) (w w0 : World) (S : Nat → Prop) (hk : kind = 0 ∨ kind = 1) (hL : jJ false w0 S (.slice la l.lists.length lc) l.lists) (hC : jE false w0 S (.slice ca l.cells.length cc) l.cells) (h0 : Below w0.heap.size w0 w)
  (he : EnvT w) (hs : l.lists.length ≤ 1000000 ∧ l.cells.length ≤ 1000000) (hh : ∀ c ∈ l.cells, c.href.length ≤ 1000000) (hm : mayL l = true) :
  Calls zV 258 #[linV l (.slice la l.lists.length lc) (.slice ca l.cells.length cc), .int .i64 kind] w (vR w (xW kind l)) := by
 obtain ⟨W1, hW1, hB, hz, hA1, hA0, hA2⟩ := zGn w (.int .i64 l.quote) (.slice la l.lists.length lc) (.int .i64 l.kind) (.slice ca l.cells.length cc) (.int .i64 0) (.slice none 0 0) (.int .i64 0) (.slice none 0 0) (.int .i64 kind)
 have HT := zA (zDy 293 #[.pointer (some ⟨w.heap.size + 1, 0, none⟩)] (xW kind l) (enters_of Tryz.func293 zT rfl) l la ca lc cc W1 w0 S hL hC (zX h0 hB) (he.below hB) hs hh hm (fun n B la lc cv W hW hB1 hBn hnW hi hBb => by
  have hk1 := zY hW hA0;have hne : w.heap.size + 1 ≠ B := by omega
  first
   | exact zFo n B (w.heap.size + 1) l kind la lc cv W hBn hne hk1 hi hBb
   | exact zGm n B (w.heap.size + 1) l kind la lc cv W hm hBn hne qD hnW hk1 hi hBb))
 have hs1 := hB.size;have HB0 : Hid (∀ W, Below W1.heap.size W1 W → W.heap[w.heap.size]? = some (.cells #[.int .i64 l.quote, .slice la l.lists.length lc, .int .i64 l.kind, .slice ca l.cells.length cc] 60) ∧ W.heap[w.heap.size + 1]? = some (.cells #[.int .i64 kind] 3) ∧ W.heap[w.heap.size + 2]? = some (.cells #[.int .i64 0, .slice none 0 0, .int .i64 0, .slice none 0 0] 60)) := zA fun W hW => ⟨zY hW hA1, zY hW hA0, zY hW hA2⟩;have H1 := zA hB;obtain ⟨p0, f0⟩ := blk hA0;obtain ⟨p1, f1⟩ := blk hA1;obtain ⟨p2, f2⟩ := blk hA2;obtain ⟨r, hr⟩ : ∃ r, xW kind l = r := ⟨_, rfl⟩;rw [hr] at HT ⊢;clear hL hC hs hB h0 hr hm he;unfold linV at HT ⊢;have hk2 : (kind != 0) = false ∨ ((kind != 0) = true ∧ (kind != 1) = false) := by rcases hk with rfl | rfl <;> simp
 clear hk;rcases hk2 with k0 | ⟨k0, k1⟩
 ·cases r with
   | none =>
    go_enter Tryz.func258, Tryz.ntmps258;go_wp2_with (go_at_call 229; refine HT.out.mono ?_; rintro e w2 ⟨_, he2, hb2⟩; obtain rfl := he2 rfl; obtain ⟨hA3, hA5, hA4⟩ := HB0.out _ hb2; obtain ⟨q0, g0⟩ := blk hA3; obtain ⟨q1, g1⟩ := blk hA4; obtain ⟨q2, g2⟩ := blk hA5);refine zM (xO rfl _ _ (w.heap.size + 2) (.int .i64 0) (.slice none 0 0) (.int .i64 0) (.slice none 0 0) rfl yT) rfl ?_;refine ⟨fun l' h => kY, fun _ => rfl, ?_⟩;have := H1.out.trans (hb2.mono hs1)
    ((with_reducible repeat' first | exact zE _ _ | assumption | refine zG ?_ ?_ _ | refine zH ?_ | refine qR ?_ | refine zF ?_ ?_ _) <;> go_size)
   | some l' =>
    go_enter Tryz.func258, Tryz.ntmps258;go_wp2_with (go_at_call 229; refine HT.out.mono ?_; rintro e w2 ⟨he2, _, hb2⟩; obtain ⟨a', b', rfl, ha', hb'⟩ := he2 _ rfl; obtain ⟨a1, c1, rfl⟩ := ha'.slice; obtain ⟨a2, c2, rfl⟩ := hb'.slice; obtain ⟨hA3, hA5, hA4⟩ := HB0.out _ hb2; obtain ⟨q0, g0⟩ := blk hA3; obtain ⟨q1, g1⟩ := blk hA4; obtain ⟨q2, g2⟩ := blk hA5);refine zM (xO rfl _ _ (w.heap.size + 2) (.int .i64 l'.quote) (.slice a1 l'.lists.length c1) (.int .i64 l'.kind) (.slice a2 l'.cells.length c2) rfl yT) rfl ?_;refine ⟨fun l'' h => ?_, fun h => kY, ?_⟩
    ·cases h
     exact ⟨_, _, rfl, (qH (qC _) ha' jN (fun b h _ => jL)), (qH (qC _) hb' jN (fun b h _ => jL))⟩
    ·have := H1.out.trans (hb2.mono hs1)
     ((with_reducible repeat' first | exact zE _ _ | assumption | refine zG ?_ ?_ _ | refine zH ?_ | refine qR ?_ | refine zF ?_ ?_ _) <;> go_size)
 ·cases r with
   | none =>
    go_enter Tryz.func258, Tryz.ntmps258;go_wp2_with (go_at_call 229; refine HT.out.mono ?_; rintro e w2 ⟨_, he2, hb2⟩; obtain rfl := he2 rfl; obtain ⟨hA3, hA5, hA4⟩ := HB0.out _ hb2; obtain ⟨q0, g0⟩ := blk hA3; obtain ⟨q1, g1⟩ := blk hA4; obtain ⟨q2, g2⟩ := blk hA5);refine zM (xO rfl _ _ (w.heap.size + 2) (.int .i64 0) (.slice none 0 0) (.int .i64 0) (.slice none 0 0) rfl yT) rfl ?_;refine ⟨fun l' h => kY, fun _ => rfl, ?_⟩;have := H1.out.trans (hb2.mono hs1)
    ((with_reducible repeat' first | exact zE _ _ | assumption | refine zG ?_ ?_ _ | refine zH ?_ | refine qR ?_ | refine zF ?_ ?_ _) <;> go_size)
   | some l' =>
    go_enter Tryz.func258, Tryz.ntmps258;go_wp2_with (go_at_call 229; refine HT.out.mono ?_; rintro e w2 ⟨he2, _, hb2⟩; obtain ⟨a', b', rfl, ha', hb'⟩ := he2 _ rfl; obtain ⟨a1, c1, rfl⟩ := ha'.slice; obtain ⟨a2, c2, rfl⟩ := hb'.slice; obtain ⟨hA3, hA5, hA4⟩ := HB0.out _ hb2; obtain ⟨q0, g0⟩ := blk hA3; obtain ⟨q1, g1⟩ := blk hA4; obtain ⟨q2, g2⟩ := blk hA5);refine zM (xO rfl _ _ (w.heap.size + 2) (.int .i64 l'.quote) (.slice a1 l'.lists.length c1) (.int .i64 l'.kind) (.slice a2 l'.cells.length c2) rfl yT) rfl ?_;refine ⟨fun l'' h => ?_, fun h => kY, ?_⟩
    ·cases h
     exact ⟨_, _, rfl, (qH (qC _) ha' jN (fun b h _ => jL)), (qH (qC _) hb' jN (fun b h _ => jL))⟩
    ·have := H1.out.trans (hb2.mono hs1)
     ((with_reducible repeat' first | exact zE _ _ | assumption | refine zG ?_ ?_ _ | refine zH ?_ | refine qR ?_ | refine zF ?_ ?_ _) <;> go_size)
theorem zHL (l : Lin) (la ca : Option Addr) (lc cc : Nat) (w w0 : World) (S : Nat → Prop) (hL : jJ false w0 S (.slice la l.lists.length lc) l.lists) (hC : jE false w0 S (.slice ca l.cells.length cc) l.cells) (h0 : Below w0.heap.size w0 w)
  (he : EnvT w) (hs : l.lists.length ≤ 1000000 ∧ l.cells.length ≤ 1000000) (hh : ∀ c ∈ l.cells, c.href.length ≤ 1000000) (hm : mayL l = true) :
  Calls zV 167 #[linV l (.slice la l.lists.length lc) (.slice ca l.cells.length cc)] w (vR w (vG l)) := by
 obtain ⟨W1, hW1, hB, hz, hA1, hA2⟩ := zAo w (.int .i64 l.quote) (.slice la l.lists.length lc) (.int .i64 l.kind) (.slice ca l.cells.length cc) (.int .i64 0) (.slice none 0 0) (.int .i64 0) (.slice none 0 0);have HT := zA (zDy 255 #[] (vG l) (enters_of Tryz.func255 zT rfl) l la ca lc cc W1 w0 S hL hC (zX h0 hB) (he.below hB) hs hh hm (fun n B la lc cv W hW hB1 hBn hnW hi hBb => zJv n B l la lc cv W hm hBn hnW hi hBb));have hs1 := hB.size;have HB0 : Hid (∀ W, Below W1.heap.size W1 W → W.heap[w.heap.size]? = some (.cells #[.int .i64 l.quote, .slice la l.lists.length lc, .int .i64 l.kind, .slice ca l.cells.length cc] 60) ∧ W.heap[w.heap.size + 1]? = some (.cells #[.int .i64 0, .slice none 0 0, .int .i64 0, .slice none 0 0] 60)) := zA fun W hW => ⟨zY hW hA1, zY hW hA2⟩;have H1 := zA hB;obtain ⟨p1, f1⟩ := blk hA1;obtain ⟨p2, f2⟩ := blk hA2;obtain ⟨r, hr⟩ : ∃ r, vG l = r := ⟨_, rfl⟩;rw [hr] at HT ⊢;clear hL hC hs hB h0 hr hm he;unfold linV at HT ⊢;cases r with
 | none =>
  go_enter Tryz.func167, Tryz.ntmps167;go_wp2_with (go_at_call 229; refine HT.out.mono ?_; rintro e w2 ⟨_, he2, hb2⟩; obtain rfl := he2 rfl; obtain ⟨hA3, hA4⟩ := HB0.out _ hb2; obtain ⟨q0, g0⟩ := blk hA3; obtain ⟨q1, g1⟩ := blk hA4);refine zM (xO rfl _ _ (w.heap.size + 1) (.int .i64 0) (.slice none 0 0) (.int .i64 0) (.slice none 0 0) rfl yT) rfl ?_;refine ⟨fun l' h => kY, fun _ => rfl, ?_⟩;have := H1.out.trans (hb2.mono hs1)
  ((with_reducible repeat' first | exact zE _ _ | assumption | refine zG ?_ ?_ _ | refine zH ?_ | refine qR ?_ | refine zF ?_ ?_ _) <;> go_size)
 | some l' =>
  go_enter Tryz.func167, Tryz.ntmps167;go_wp2_with (go_at_call 229; refine HT.out.mono ?_; rintro e w2 ⟨he2, _, hb2⟩; obtain ⟨a', b', rfl, ha', hb'⟩ := he2 _ rfl; obtain ⟨a1, c1, rfl⟩ := ha'.slice; obtain ⟨a2, c2, rfl⟩ := hb'.slice; obtain ⟨hA3, hA4⟩ := HB0.out _ hb2; obtain ⟨q0, g0⟩ := blk hA3; obtain ⟨q1, g1⟩ := blk hA4);refine zM (xO rfl _ _ (w.heap.size + 1) (.int .i64 l'.quote) (.slice a1 l'.lists.length c1) (.int .i64 l'.kind) (.slice a2 l'.cells.length c2) rfl yT) rfl ?_;refine ⟨fun l'' h => ?_, fun h => kY, ?_⟩
  ·cases h
   exact ⟨_, _, rfl, (qH (qC _) ha' jN (fun b h _ => jL)), (qH (qC _) hb' jN (fun b h _ => jL))⟩
  ·have := H1.out.trans (hb2.mono hs1)
   ((with_reducible repeat' first | exact zE _ _ | assumption | refine zG ?_ ?_ _ | refine zH ?_ | refine qR ?_ | refine zF ?_ ?_ _) <;> go_size)
end Go.Proofs.YtcliojeoindceaaGreatDoor
namespace Go.Proofs.YtcliojeoindceaaGreatDoor
open Go.RowKit
open Go.Proofs.Qw
open _root_.List renaming getElem?_eq_some_iff → zK
theorem zDY {w : World} {S : Nat → Prop} {b o c : Nat} {O : Doc} (h : DocR true w S (.slice (some ⟨b, o, none⟩) O.length c) O) {i : Nat} {l : Lin} (hi : O[i]? = some l) (l' : Lin) (x1 x2 : Value) (h1 : jJ true w S x1 l'.lists) (h2 : jE true w S x2 l'.cells) :
  ∃ W, (((w.setCell ⟨b, o + i * 4, none⟩ (.int .i64 l'.quote)).setCell ⟨b, o + i * 4 + 1, none⟩ x1).setCell ⟨b, o + i * 4 + 2, none⟩ (.int .i64 l'.kind)).setCell ⟨b, o + i * 4 + 3, none⟩ x2 = W ∧
   DocR true W S (.slice (some ⟨b, o, none⟩) O.length c) (O.set i l') ∧ (∀ d, d ≠ b → W.heap[d]? = w.heap[d]?) ∧ W.heap.size = w.heap.size ∧ (∀ m, m ≤ b → Below m w W) := by
 have hil := (zK.1 hi).1
 have hw := SliceR.write (R := uH true) (k := 4) kH.tag qW h (p := i) (ys := [l']) (news := [.int .i64 l'.quote, x1, .int .i64 l'.kind, x2]) jB
  (NewsR.one rfl ⟨_, _, rfl, h1, h2⟩) rfl
 refine ⟨_, rfl, ?_, fun d hd => by simp [jO, Ne.symm hd], by simp, fun m hm => ((((Below.refl _ _).setCell hm _).setCell hm _).setCell hm _).setCell hm _⟩;have e : O.take i ++ [l'] ++ O.drop (i + 1) = O.set i l' := (zEn hi l').symm;simp only [List.length_singleton] at hw;rw [e] at hw;exact hw
theorem zCD {w : World} {S : Nat → Prop} {a : Option Addr} {n c : Nat} {O : Doc} (h : DocR true w S (.slice a n c) O) {i : Nat} {l : Lin} (hi : O[i]? = some l) :
  ∃ b o la lc ca cc, a = some ⟨b, o, none⟩ ∧ S b ∧ b < w.heap.size ∧ LinAt w S b (o + i * 4) l la lc ca cc ∧ (∀ k, w.frozen? ⟨b, k, none⟩ = false) ∧ ∃ cs, w.heap[b]? = some (.cells cs 60) := by
 have hil := (zK.1 hi).1;obtain ⟨b, o, cs, rfl, hb, hcs, hle⟩ := SliceR.cellAt h hil;obtain ⟨a', c', e, _, _, hx⟩ := xA h.read;cases e;obtain ⟨b', o', la, lc, ca, cc, e, hA⟩ := hx i l hi;cases e;exact ⟨b, o, la, lc, ca, cc, rfl, hb, hA.lt, hA, fun k => xY hcs, cs, hcs⟩
end Go.Proofs.YtcliojeoindceaaGreatDoor
namespace Go.Proofs.YtcliojeoindceaaGreatDoor
open Go.RowKit
open Go.Proofs.Qw
attribute [local go_sem] Oper.semAt_some
open _root_.Go.Lib renaming hid → zA
open _root_.And renaming intro → zB
open _root_.Nat renaming le_refl → zC
open _root_.Go.RowKit.Below renaming refl → zE
open _root_.Go.Proofs.Tryz renaming prog → zV
open _root_.Go.Proofs.YtcliojeoindceaaGreatDoor renaming jI → zY, jK → zZ
open _root_.Go.Proofs.Qw renaming jW → qB
open _root_.Go.Proofs.Qw.SliceR renaming stable → qH
open _root_.Go.Proofs.Qw.Keeps renaming refl → qN
def anyX {w0 : World} {S : Nat → Prop} {s : St} (f : Lin → Option Lin) (pre : List (SelX w0 S s)) : Bool := pre.any fun x => (f x.l).isSome
def EB {w0 : World} {S : Nat → Prop} {s : St} (f : Lin → Option Lin) (v fv : Value) (w : World) (Bo Bm Z : Nat) (pre : List (SelX w0 S s)) (W : World) : Prop :=
 W.heap[Bo]? = some (.cells #[v, .int .i64 s.anc.line, .int .i64 s.anc.col, .int .i64 s.foc.line, .int .i64 s.foc.col, .int .i64 0, .int .i64 0] 26) ∧ W.heap[Bm]? = some (.cells #[.int .i64 (if anyX f pre = true then 0 else 7)] 30) ∧
  W.heap[w.heap.size + 1]? = some (.cells #[fv] 99) ∧ W.heap[w.heap.size + 2]? = some (.cells #[.slice none 0 0, .int .i64 0, .int .i64 0, .int .i64 0, .int .i64 0, .int .i64 0, .int .i64 0] 26) ∧ DocR true W (fun b => w.heap.size + 3 ≤ b ∧ b ≠ Bo ∧ b ≠ Bm) v (vU f s (pre.map (·.i))) ∧ Below w.heap.size w W ∧ Z ≤ W.heap.size
theorem zNH {w0 : World} {S : Nat → Prop} {s : St} {f : Lin → Option Lin} {v fv : Value} {w : World} {Bo Bm Z B : Nat} (hB : w.heap.size ≤ B) : OwnFrom B (EB (w0 := w0) (S := S) (s := s) f v fv w Bo Bm Z) :=
 OwnFrom.and (xP _ _ _ _) (OwnFrom.and (fun pre X _ _ hs hg hr => xP (β := Unit) B _ _ _ () X _ _ hs hg hr) (OwnFrom.and (xP _ _ _ _) (OwnFrom.and (xP _ _ _ _) (OwnFrom.and (zAs _ _ _ _) (OwnFrom.and (ownFrom_below (zC _) hB) (uS _ _))))))
theorem zJB (w : World) (v fv : Value) (s : St) : ∃ W1, ((w.alloc (.cells #[v, .int .i64 s.anc.line, .int .i64 s.anc.col, .int .i64 s.foc.line, .int .i64 s.foc.col, .int .i64 s.on, .int .i64 s.off] 26)).alloc (.cells #[fv] 99)).alloc (.cells #[.slice none 0 0, .int .i64 0, .int .i64 0, .int .i64 0, .int .i64 0, .int .i64 0, .int .i64 0] 26) = W1 ∧ Below w.heap.size w W1 ∧ w.heap.size + 3 = W1.heap.size ∧
  W1.heap[w.heap.size]? = some (.cells #[v, .int .i64 s.anc.line, .int .i64 s.anc.col, .int .i64 s.foc.line, .int .i64 s.foc.col, .int .i64 s.on, .int .i64 s.off] 26) ∧ W1.heap[w.heap.size + 1]? = some (.cells #[fv] 99) ∧ W1.heap[w.heap.size + 2]? = some (.cells #[.slice none 0 0, .int .i64 0, .int .i64 0, .int .i64 0, .int .i64 0, .int .i64 0, .int .i64 0] 26) :=
 ⟨_, rfl, (((zE _ _).alloc (zC _) _).alloc qF _).alloc jB _, by simp, zZ _ _ (zZ _ _ (jF _ _ rfl)), zZ _ _ (jF _ _ qF), jF _ _ qF⟩
theorem zDI (w : World) : w.drew.heap = w.heap := rfl
theorem zEd (p q : Nat) (a b : Value) (t : Array Value) : (#[p, q].zip #[a, b]).foldl (fun t x => match x with | (p, v) => t.setIfInBounds p v) t = (t.setIfInBounds p a).setIfInBounds q b := by simp
theorem zME {w : World} {B : Nat} {cs : Array Value} {t : TypeId} (h : w.heap[B]? = some (.cells cs t)) : ∀ X Y k, ((w.alloc X).alloc Y).cell? ⟨B, k, none⟩ = cs[k]? := fun X Y _ => jT (zZ _ Y (zZ _ X h))
set_option maxRecDepth 200000 in
theorem zBH (v : Value) (s : St) (g : Nat) (lb : Array Value) (f : Lin → Option Lin) (w : World) (S : Nat → Prop) (h : jD w S v s.lines) (he : EnvT w) (hs : Small s.lines) (hf : Fits s.lines)
  (eg : ∀ args w, (callFunc g args).run zV w = .ok (.enter g args) w)
  (hg : ∀ (W : World) (l : Lin) (la ca : Option Addr) (lc cc : Nat), Below w.heap.size w W → l ∈ s.lines → mayL l = true → jJ false w S (.slice la l.lists.length lc) l.lists → jE false w S (.slice ca l.cells.length cc) l.cells → Calls zV g (#[linV l (.slice la l.lists.length lc) (.slice ca l.cells.length cc)] ++ lb) W (vR W (f l))) :
  Calls zV 166 #[stV v s, .func (.func g) #[] lb] w (StSaid (kI f s) w) := by
 obtain ⟨W1, hW1, hB, hz, k0, k1, k2⟩ := zJB w v (.func (.func g) #[] lb) s;have HB : Hid (∀ W, Below W1.heap.size W1 W → W.heap[w.heap.size]? = some (.cells #[v, .int .i64 s.anc.line, .int .i64 s.anc.col, .int .i64 s.foc.line, .int .i64 s.foc.col, .int .i64 s.on, .int .i64 s.off] 26) ∧ W.heap[w.heap.size + 1]? = some (.cells #[.func (.func g) #[] lb] 99) ∧ W.heap[w.heap.size + 2]? = some (.cells #[.slice none 0 0, .int .i64 0, .int .i64 0, .int .i64 0, .int .i64 0, .int .i64 0, .int .i64 0] 26)) := zA fun W hW => ⟨zY hW k0, zY hW k1, zY hW k2⟩;have hs1 := hB.size;have H1 := zA hB;have hw0 : Below W1.heap.size W1 W1 := zE _ _;have HV : Hid (∀ W, Below W1.heap.size W1 W → jD W S v s.lines) := zA fun W hW => h.below (qB _) (hB.trans (hW.mono hs1));have HE : Hid (∀ W, Below W1.heap.size W1 W → EnvT W) := zA fun W hW => (he.below hB).below hW;have HM : Hid (∀ W, Below W1.heap.size W1 W → Calls zV 23 #[stV v s] W fun e w' => e = .returned (.bool (mayS s)) ∧ Below W.heap.size W w') := zA fun W hW => vV v s W S (HV.out W hW) (HE.out W hW) hs;have HOw : Hid (∀ W, Below W1.heap.size W1 W → Calls zV 31 #[stV v s] W fun e w' => ∃ v', e = .returned (stV v' s) ∧ DocR true w' (fun b => W.heap.size ≤ b) v' s.lines ∧ Below W.heap.size W w') := zA fun W hW => zDP v s W S (HV.out W hW) hf;have HVF := zA (zB h (zB hs hf));have HG := zA hg;have HR := zA (show kI f s = if mayS s = true then (if yS (fun l => (f l).isSome) s s.lines.length = true then (⟨zCa f s, s.anc, s.foc, 0, 0⟩, 0) else (noS, 7)) else (noS, 1) from rfl);obtain ⟨p0, f0⟩ := blk k0;obtain ⟨p1, f1⟩ := blk k1;obtain ⟨p2, f2⟩ := blk k2;obtain ⟨va, vc, rfl⟩ := h.slice;cases hm : mayS s
 ·rw [hm] at HM HR
  have HR : Hid (kI f s = (noS, 1)) := zA (HR.out.trans (if_neg qF));clear h he hs hf k0 k1 k2 hB hm HOw HVF HG hg;go_enter Tryz.func166, Tryz.ntmps166;go_wp2_with (go_at_call 23; refine (HM.out _ hw0).mono ?_; rintro e w2 ⟨rfl, hb2⟩; obtain ⟨q0, g0⟩ := blk (HB.out _ hb2).1; obtain ⟨q2, g2⟩ := blk (HB.out _ hb2).2.2);refine bodyPost_ret (jS rfl _ _ (w.heap.size + 2) (.slice none 0 0) (.int .i64 0) (.int .i64 0) (.int .i64 0) (.int .i64 0) (.int .i64 0) (.int .i64 0) (.int .i64 1) rfl rfl (by simp [jO, jA, (HB.out _ hb2).2.2])) rfl ?_;unfold StSaid;rw [HR.out];have hfin := H1.out.trans (hb2.mono hs1);exact ⟨_, rfl, SliceR.nil _ _ _ _ _ _, by ((with_reducible repeat' first | exact zE _ _ | assumption | refine Below.alloc ?_ ?_ _ | refine Below.drew ?_ | refine jQ ?_ | refine Below.setCell ?_ ?_ _) <;> go_size)⟩
 rw [hm] at HM HR;rw [if_pos rfl] at HR;obtain ⟨i, j, hi, hj, hij, hjl⟩ := zCx hm;have HSI := zA (zB hi hj)
 have HR : Hid (kI f s = if ((List.range' i (j + 1 - i)).any fun k => (f (kE s k)).isSome) = true then (⟨vU f s (List.range' i (j + 1 - i)), s.anc, s.foc, 0, 0⟩, 0) else (noS, 7)) := zA (by
  rw [HR.out, zKr hi hj hij hjl];have := zGA hi hj hij hjl (fun l => (f l).isSome);rw [this])
 have HML : Hid (∀ l ∈ s.lines, mayL l = true) := zA (xZ.1 (yK hm).1).2.2.2;clear h he hs hf k0 k1 k2 hB hm hg hi hj;refine (callsIn_wide (n := 6)).1 ?_;refine callsIn_of_wp_marks Tryz.func166 rfl trivial ?_ rfl;simp only [Tryz.ntmps166, List.size_toArray, List.length_cons, List.length_nil, Nat.reduceAdd, Nat.reduceSub, Array.replicate_succ, Array.replicate_zero, List.push_toArray, List.append_toArray, List.nil_append, List.cons_append];have hwf : ∀ f, Fence.wide.fn f := fun _ => trivial;have hwd : Fence.wide.depth = none := rfl
 gi_wp2_with (first
  | (gi_at_call 23; refine (callsIn_wide.2 (HM.out _ hw0)).mono ?_; rintro e w2 ⟨rfl, hb2⟩; obtain ⟨q0, g0⟩ := blk (HB.out _ hb2).1)
  | (gi_at_call 31; refine (callsIn_wide.2 (HOw.out _ hb2)).mono ?_; rintro e w3 ⟨v3, rfl, hv3, hst3⟩; obtain ⟨a3, c3, rfl⟩ := hv3.slice; have hb3 := jG hb2 hst3; have HV3 := zA hv3; clear hv3; obtain ⟨q1, g1⟩ := blk (HB.out _ hb3).1; have hz3 := hb3.size; have na3 : ¬ w3.heap.size = w.heap.size := qD; have r1 := zME (HB.out _ hb3).1)
  | (gi_at_call 113; refine (callsIn_wide.2 (zDg _ _ _ s _)).mono ?_; rintro e w5 ⟨rfl, rfl⟩))
 have HP : Hid (∀ (u : Value), stV u s = .agg #[u, .int .i64 s.anc.line, .int .i64 s.anc.col, .int .i64 s.foc.line, .int .i64 s.foc.col, .int .i64 s.on, .int .i64 s.off]) := zA fun _ => rfl;obtain ⟨w6, hw6⟩ : ∃ w6, ((w3.alloc (.cells #[.slice a3 s.lines.length c3, .int .i64 s.anc.line, .int .i64 s.anc.col, .int .i64 s.foc.line, .int .i64 s.foc.col, .int .i64 0, .int .i64 0] 26)).alloc (.cells #[.int .i64 7] 30)).alloc (.cells #[.slice va s.lines.length vc, .int .i64 s.anc.line, .int .i64 s.anc.col, .int .i64 s.foc.line, .int .i64 s.foc.col, .int .i64 s.on, .int .i64 s.off] 26) = w6 := ⟨_, rfl⟩;rw [hw6];have hb36 : Below w3.heap.size w3 w6 := hw6 ▸ (((zE _ _).alloc (zC _) _).alloc qF _).alloc jB _;have hz6 : w6.heap.size = w3.heap.size + 3 := by rw [← hw6]; simp
 have m0 : w6.heap[w3.heap.size]? = some (.cells #[.slice a3 s.lines.length c3, .int .i64 s.anc.line, .int .i64 s.anc.col, .int .i64 s.foc.line, .int .i64 s.foc.col, .int .i64 0, .int .i64 0] 26) := hw6 ▸ zZ _ _ (zZ _ _ (jF _ _ rfl));have m1 : w6.heap[w3.heap.size + 1]? = some (.cells #[.int .i64 7] 30) := hw6 ▸ zZ _ _ (jF _ _ qF);have m2 : w6.heap[w3.heap.size + 1 + 1]? = some (.cells #[.slice va s.lines.length vc, .int .i64 s.anc.line, .int .i64 s.anc.col, .int .i64 s.foc.line, .int .i64 s.foc.col, .int .i64 s.on, .int .i64 s.off] 26) := hw6 ▸ jF _ _ qF;have hb6 := jG hb3 hb36;have hw3 : Below w.heap.size w w3 := H1.out.trans (hb3.mono hs1);have hbw : Below w.heap.size w w6 := hw3.trans (hb36.mono qD);have hs2 := hb2.size;have hzz : w.heap.size + 3 ≤ w3.heap.size := by omega
 have hEB : EB (w0 := w) (S := S) (s := s) f (.slice a3 s.lines.length c3) (.func (.func g) #[] lb) w w3.heap.size (w3.heap.size + 1) w6.heap.size [] w6 := ⟨m0, m1, zY hb36 (HB.out _ hb3).2.1, zY hb36 (HB.out _ hb3).2.2, qH (qB true) HV3.out (.all hb36) (fun b hb hz => (by have hb : w2.heap.size ≤ b := hb; exact ⟨by omega, by omega, by omega⟩)), hbw, zC _⟩;have N2 := zA m2;have HBW := zA hbw;clear hw6 q0 g0 q1 g1 r1 p0 f0 p1 f1 p2 f2 hW1 m0 m1 m2
 refine zBE rfl qD (gf := 196) (lb := #[.pointer (some ⟨w3.heap.size + 1 + 1, 0, none⟩)]) rfl trivial (enters_of Tryz.func196 zT rfl)
  (encs := zAu (w0 := w) (S := S) (s := s)) (n₀ := w.heap.size) (base := w3.heap.size + 2) (S := fun ys => ys.map (·.i) = List.range' i (j + 1 - i)) (Sp := fun pre => pre.map (·.i) = List.range' i pre.length ∧ pre.length ≤ j + 1 - i) (N := 200000) (w0 := w6) ?seq qD (zE _ _) (fun _ => rfl)
  (EB f (.slice a3 s.lines.length c3) (.func (.func g) #[] lb) w w3.heap.size (w3.heap.size + 1) w6.heap.size) (fun _ _ _ => False) (zNH qD) (fun _ _ _ _ _ hs _ _ => hs) hEB (fun _ _ h => h.2.2.2.2.2.2)
  (fun x => #[.int .i64 x.l.quote, .slice x.la x.l.lists.length x.lc, .int .i64 x.l.kind, .slice x.ca x.l.cells.length x.cc]) 60 ?act ?assign ?body ?done ?stop
 case seq =>
  intro l J Jx W hW hJ _ hY h0;have hzW := hW.size;exact zEf 5 l (w3.heap.size + 1 + 1) (w3.heap.size + 2) (.slice va s.lines.length vc) s i j S w W J Jx HVF.out.1 (HBW.out.trans (hW.mono HBW.out.size)) qD qD (zY hW N2.out) HSI.out.1 HSI.out.2 hij hjl HVF.out.2.1.2.1 hJ hY h0
 case assign =>
  intro l pre x W K Bx hBx hI hK;unfold zAu linV;rw [zEd];simp only [qI, qX, qY]
  repeat (first | go_values | gi_guarded | gi_step | gi_upon)
  rw [← hBx];exact hK
 case body =>
  intro l pre x Bx W hI hBx hbx hlt;obtain ⟨t0, t1, t2, t3, hD, hb, hz⟩ := hI;obtain ⟨k, ln, la, lc, ca, cc, row, hL, hC⟩ := x;have hkl := (List.getElem?_eq_some_iff.1 row).1;have hmem := List.mem_of_getElem? row;have hGG := zA (fun W' (hW' : Below w.heap.size w W') => HG.out W' ln la ca lc cc hW' hmem (HML.out ln hmem) hL hC);obtain ⟨O, hO⟩ : ∃ O, vU f s (pre.map (·.i)) = O := ⟨_, rfl⟩;have hOl : O.length = s.lines.length := by rw [← hO, zLu]
  rw [hO] at hD;obtain ⟨m, hm, _⟩ := jP O k qD;have hAny : anyX f (pre ++ [(⟨k, ln, la, lc, ca, cc, row, hL, hC⟩ : SelX w S s)]) = (anyX f pre || (f ln).isSome) := by simp [anyX]
  have hFold : vU f s ((pre ++ [(⟨k, ln, la, lc, ca, cc, row, hL, hC⟩ : SelX w S s)]).map (·.i)) = match f ln with | some l' => O.set k l' | none => O := by
   rw [List.map_append, List.map_singleton, zFP, hO]
   show (match s.lines[k]? with | some l => (match f l with | some l' => O.set k l' | none => O) | none => O) = _
   rw [row]
  obtain ⟨s0, s0f⟩ := blk t0;obtain ⟨s1, s1f⟩ := blk t1;obtain ⟨s2, s2f⟩ := blk t2;obtain ⟨sx, sxf⟩ := blk hbx;have hbW : Below w.heap.size w W := hb;have HIN := zA (zB t0 (zB t1 (zB t2 (zB hb (zB hz t3)))));have HD := zA hD;have HF := zA hFold;have HA := zA hAny;have HX := zA hbx;have HM := zA hm;have hzW := hb.size;have hgg := hGG.out W hb;unfold linV at hgg;obtain ⟨r, hr⟩ : ∃ r, f ln = r := ⟨_, rfl⟩;rw [hr] at HF HA hgg;have HC := zA hgg;clear t0 t1 t2 t3 hD hb hFold hAny hbx hm hgg hGG hO;simp only at s0 sx ⊢;cases r with
  | none =>
   gi_wp2_with fail
   refine (callsIn_wide.2 HC.out).mono ?_;rintro e w7 ⟨_, he7, hb7⟩;obtain rfl := he7 rfl
   gi_wp2_with fail
   have hb8 : Below W.heap.size W (w7.alloc (.cells #[.int .i64 0, .slice none 0 0, .int .i64 0, .slice none 0 0] 60)) := hb7.alloc hb7.size _;have hbw8 := jG HIN.out.2.2.2.1 hb8;refine ⟨(uB hb8).from _, Kp.of_below (by have := HIN.out.2.2.2.1.size; omega) hb8, zY hb8 HIN.out.1, ?_, zY hb8 HIN.out.2.2.1, zY hb8 HIN.out.2.2.2.2.2, ?_, hbw8, ?_⟩
   ·rw [HA.out, Option.isSome_none, Bool.or_false]
    exact zY hb8 HIN.out.2.1
   ·rw [HF.out]
    exact SliceR.below (qB true) HD.out hb8
   ·have := hb8.size; have := HIN.out.2.2.2.2.1; omega
  | some l' =>
   gi_wp2_with fail
   refine (callsIn_wide.2 HC.out).mono ?_;rintro e w7 ⟨he7, _, hb7⟩;obtain ⟨x1, x2, rfl, hx1, hx2⟩ := he7 _ rfl;obtain ⟨a1, c1, rfl⟩ := hx1.slice;obtain ⟨a2, c2, rfl⟩ := hx2.slice;have HX12 := zA (zB hx1 hx2);have hz7 := hb7.size;have hb7w : Below w.heap.size w w7 := jG HIN.out.2.2.2.1 hb7;have hD7 := SliceR.below (qB true) HD.out hb7;obtain ⟨b4, o4, la4, lc4, ca4, cc4, e4, hS4, hlt4, hA4, hfr4, cs4, hcs4⟩ := zCD (a := a3) (n := s.lines.length) (c := c3) hD7 HM.out;subst e4
   have hv4 : b4 < w3.heap.size ∧ w2.heap.size ≤ b4 := by
    obtain ⟨b5, o5, la5, lc5, ca5, cc5, e5, hS5, hlt5, _⟩ := zCD HV3.out row;cases e5;exact ⟨hlt5, hS5⟩
   have hS4 : w.heap.size ≤ b4 := by have := hS4.1; omega
   obtain ⟨y0, y0f⟩ := blk (zY hb7 HIN.out.1);obtain ⟨y1, y1f⟩ := blk (zY hb7 HIN.out.2.1);obtain ⟨_, k0, k1, k2, k3, _, _⟩ := hA4;have v1 : ¬ b4 = w3.heap.size := by omega
   have v2 : ¬ b4 = w3.heap.size + 1 := by omega
   have v3 : ¬ w3.heap.size = b4 := by omega
   have v4 : ¬ w3.heap.size + 1 = b4 := by omega
   have v5 : w3.heap.size + 1 < w7.heap.size := by omega
   have v6 : w3.heap.size < w7.heap.size := by omega
   have v7 : b4 < w7.heap.size := by omega
   have t1 := jR (y1 0);have t5 : ∀ ob k, (w7.alloc ob).frozen? ⟨w3.heap.size + 1, k, none⟩ = false := fun ob k => xY (zZ _ ob (zY hb7 HIN.out.2.1));have HD7 := zA hD7;have i0 : (0 : Int) ≤ (k : Int) := Int.natCast_nonneg _;have i1 : (k : Int) < (s.lines.length : Int) := by omega
   have t0 := jR (y0 0);have t4 : ∀ ob k, (w7.alloc ob).frozen? ⟨b4, k, none⟩ = false := fun ob k => xY (zZ _ ob hcs4);have u0 := jR k0;have u1 := jR k1;have u2 := jR k2;have u3 := jR k3;clear hx1 hx2 hD7 hcs4;unfold linV;simp only []
   repeat (first | go_values | gi_guarded | gi_step | gi_upon)
   have hx1 : jJ true w7 (fun b => w.heap.size + 3 ≤ b ∧ b ≠ w3.heap.size ∧ b ≠ w3.heap.size + 1) (.slice a1 l'.lists.length c1) l'.lists := qH (jZ _) HX12.out.1 (qN _ _) (fun b h _ => by have h' : W.heap.size ≤ b := h; have := HIN.out.2.2.2.2.1; exact ⟨by omega, by omega, by omega⟩);have hx2 : jE true w7 (fun b => w.heap.size + 3 ≤ b ∧ b ≠ w3.heap.size ∧ b ≠ w3.heap.size + 1) (.slice a2 l'.cells.length c2) l'.cells := qH (jZ _) HX12.out.2 (qN _ _) (fun b h _ => by have h' : W.heap.size ≤ b := h; have := HIN.out.2.2.2.2.1; exact ⟨by omega, by omega, by omega⟩);have hd7 := HD7.out;rw [← hOl] at hd7;obtain ⟨W9, hW9, hD9, hk9, hz9, hb9⟩ := zDY hd7 HM.out l' (.slice a1 l'.lists.length c1) (.slice a2 l'.cells.length c2) hx1 hx2;rw [hW9];obtain ⟨W10, hW10⟩ : ∃ W10, (W9.setCell ⟨w3.heap.size + 1, 0, none⟩ (.int .i64 0)).alloc (.cells #[.int .i64 l'.quote, .slice a1 l'.lists.length c1, .int .i64 l'.kind, .slice a2 l'.cells.length c2] 60) = W10 := ⟨_, rfl⟩;rw [hW10]
   have hkp : Kp w.heap.size (w3.heap.size + 2) w7 W10 := by
    rw [← hW10, ← hW9];exact (((((Kp.setCell _ hS4 qD _).t (Kp.setCell _ hS4 qD _)).t (Kp.setCell _ hS4 qD _)).t (Kp.setCell _ hS4 qD _)).t (Kp.setCell _ qD qD _)).t (Kp.of_below jB ((zE _ _).alloc (zC _) _))
   have hko : KeepsOthers w7 W10 := by
    rw [← hW10, ← hW9];exact (((((KeepsOthers.setCell _ _ _).trans (KeepsOthers.setCell _ _ _)).trans (KeepsOthers.setCell _ _ _)).trans (KeepsOthers.setCell _ _ _)).trans (KeepsOthers.setCell _ _ _)).trans (KeepsOthers.alloc _ _)
   have hH : ∀ b o, b ≠ b4 → b ≠ w3.heap.size + 1 → w7.heap[b]? = some o → W10.heap[b]? = some o := fun b o h1 h2 h3 => by
    rw [← hW10];exact zZ _ _ (by rw [jO, if_neg (Ne.symm h2), hk9 b h1, h3])
   have hM : W10.heap[w3.heap.size + 1]? = some (.cells #[.int .i64 0] 30) := by
    rw [← hW10];exact zZ _ _ (by rw [jO, if_pos rfl, hk9 _ v4, zY hb7 HIN.out.2.1]; rfl)
   have hD10 : DocR true W10 (fun b => w.heap.size + 3 ≤ b ∧ b ≠ w3.heap.size ∧ b ≠ w3.heap.size + 1) (.slice (some ⟨b4, o4, none⟩) O.length c3) (O.set k l') := by
    rw [← hW10];exact qH (qB true) hD9 (((qN _ _).set qF _).alloc _) (fun b h _ => h)
   refine ⟨((uB hb7).trans hko).from _, (Kp.of_below qD hb7).t hkp, hH _ _ v3 qD (zY hb7 HIN.out.1), ?_, hH _ _ qD qD (zY hb7 HIN.out.2.2.1), hH _ _ qD qD (zY hb7 HIN.out.2.2.2.2.2), ?_, hb7w.trans hkp.below, ?_⟩
   ·rw [HA.out, Option.isSome_some, Bool.or_true]
    exact hM
   ·rw [HF.out, ← hOl]
    exact hD10
   ·have := hkp.below.size; have := HIN.out.2.2.2.2.1; omega
 case done =>
  rintro D ys W hD hys ⟨t0, t1, t2, t3, hDoc, hb, hz⟩ hK
  have hAny : anyX f ys = (List.range' i (j + 1 - i)).any fun k => (f (kE s k)).isSome := by
   rw [← hys, List.any_map];unfold anyX;refine congrArg (List.any ys) (funext fun x => ?_)
   show _ = (f (kE s x.i)).isSome
   have : kE s x.i = x.l := by unfold kE; rw [List.getD_eq_getElem?_getD, x.row]; rfl
   rw [this]
  rw [hys] at hDoc;rw [← hAny] at HR;have HDOC := zA hDoc;have HB9 := zA hb;have HK9 := zA hK;have HT := zA (zB t0 (zB t1 t3));obtain ⟨s0, s0f⟩ := blk t0;obtain ⟨s1, s1f⟩ := blk t1;obtain ⟨s3, s3f⟩ := blk t3;have w1 : ¬ w.heap.size + 2 = w3.heap.size := by omega
  have w2' : ¬ w.heap.size + 2 = w3.heap.size + 1 := by omega
  have w3' : ¬ w3.heap.size = w.heap.size + 2 := by omega
  have w4' : ¬ w3.heap.size + 1 = w.heap.size + 2 := by omega
  have w5' : ¬ w.heap.size + 2 = D := by omega
  have w6' : ¬ D = w.heap.size + 2 := by omega
  cases hA : anyX f ys
  ·rw [hA] at HR s1
   have HR : Hid (kI f s = (noS, 7)) := zA (HR.out.trans (if_neg qF));have s1 : ∀ k, W.cell? ⟨w3.heap.size + 1, k, none⟩ = #[Value.int .i64 7][k]? := s1;clear hDoc t0 t1 t2 t3 hb hK hA hAny
   gi_wp2_with fail
   gi_region
   gi_wp2_with fail
   obtain ⟨Y, hY⟩ : ∃ Y, World.drew (((((((W.setCell ⟨w.heap.size + 1 + 1, 0, none⟩ (.slice none 0 0)).setCell ⟨w.heap.size + 1 + 1, 1, none⟩ (.int .i64 0)).setCell ⟨w.heap.size + 1 + 1, 2, none⟩ (.int .i64 0)).setCell ⟨w.heap.size + 1 + 1, 3, none⟩ (.int .i64 0)).setCell ⟨w.heap.size + 1 + 1, 4, none⟩ (.int .i64 0)).setCell ⟨w.heap.size + 1 + 1, 5, none⟩ (.int .i64 0)).setCell ⟨w.heap.size + 1 + 1, 6, none⟩ (.int .i64 0)) = Y := ⟨_, rfl⟩;rw [hY];have hYB : Y.heap[w.heap.size + 2]? = some (.cells #[.slice none 0 0, .int .i64 0, .int .i64 0, .int .i64 0, .int .i64 0, .int .i64 0, .int .i64 0] 26) := by rw [← hY, zDI]; simp [jO, jA, HT.out.2.2]
   have hYD : Y.heap[D]? = some (.deferred (some [])) := by rw [← hY, zDI]; simp [jO, HK9.out, w5']
   have hYb : Below w.heap.size w Y := by
    rw [← hY];exact (((((((HB9.out.setCell xR _).setCell xR _).setCell xR _).setCell xR _).setCell xR _).setCell xR _).setCell xR _).drew
   refine ⟨by simp, .inl ⟨_, _, rfl, run_takeDeferred hYD, ?_⟩⟩;refine ⟨_, jS rfl _ _ (w.heap.size + 2) _ _ _ _ _ _ _ (.int .i64 7) rfl rfl ((World.putObj_heap_other qD).trans hYB), ?_⟩;unfold StSaid;rw [HR.out];exact ⟨_, rfl, SliceR.nil _ _ _ _ _ _, hYb.trans (belowK_b (w := w) (zC _) Y D _ _ qD hYD rfl rfl)⟩
  ·rw [hA] at HR s1
   have HR : Hid (kI f s = (⟨vU f s (List.range' i (j + 1 - i)), s.anc, s.foc, 0, 0⟩, 0)) := zA (HR.out.trans (if_pos rfl));have s1 : ∀ k, W.cell? ⟨w3.heap.size + 1, k, none⟩ = #[Value.int .i64 0][k]? := s1;clear hDoc t0 t1 t2 t3 hb hK hA hAny
   gi_wp2_with fail
   obtain ⟨Y, hY⟩ : ∃ Y, (((((((W.setCell ⟨w.heap.size + 1 + 1, 0, none⟩ (.slice a3 s.lines.length c3)).setCell ⟨w.heap.size + 1 + 1, 1, none⟩ (.int .i64 s.anc.line)).setCell ⟨w.heap.size + 1 + 1, 2, none⟩ (.int .i64 s.anc.col)).setCell ⟨w.heap.size + 1 + 1, 3, none⟩ (.int .i64 s.foc.line)).setCell ⟨w.heap.size + 1 + 1, 4, none⟩ (.int .i64 s.foc.col)).setCell ⟨w.heap.size + 1 + 1, 5, none⟩ (.int .i64 0)).setCell ⟨w.heap.size + 1 + 1, 6, none⟩ (.int .i64 0)) = Y := ⟨_, rfl⟩;rw [hY];have hYB : Y.heap[w.heap.size + 2]? = some (.cells #[.slice a3 s.lines.length c3, .int .i64 s.anc.line, .int .i64 s.anc.col, .int .i64 s.foc.line, .int .i64 s.foc.col, .int .i64 0, .int .i64 0] 26) := by rw [← hY]; simp [jO, jA, HT.out.2.2]
   have hYD : Y.heap[D]? = some (.deferred (some [])) := by rw [← hY]; simp [jO, HK9.out, w5']
   have hYb : Below w.heap.size w Y := by
    rw [← hY];exact (((((((HB9.out.setCell xR _).setCell xR _).setCell xR _).setCell xR _).setCell xR _).setCell xR _).setCell xR _)
   refine ⟨by simp, .inl ⟨_, _, rfl, run_takeDeferred hYD, ?_⟩⟩;refine ⟨_, jS rfl _ _ (w.heap.size + 2) _ _ _ _ _ _ _ (.int .i64 0) rfl rfl ((World.putObj_heap_other qD).trans hYB), ?_⟩;unfold StSaid;rw [HR.out];refine ⟨_, rfl, ?_, ?_⟩
   ·rw [if_pos trivial]
    have hYd : DocR true Y (fun b => w.heap.size + 3 ≤ b ∧ b ≠ w3.heap.size ∧ b ≠ w3.heap.size + 1) (.slice a3 s.lines.length c3) (vU f s (List.range' i (j + 1 - i))) := by
     rw [← hY];refine qH (qB true) HDOC.out ?_ (fun b h _ => h);have hns : ¬ (w.heap.size + 3 ≤ w.heap.size + 1 + 1 ∧ w.heap.size + 1 + 1 ≠ w3.heap.size ∧ w.heap.size + 1 + 1 ≠ w3.heap.size + 1) := by omega
     exact (((((((qN _ _).set hns _).set hns _).set hns _).set hns _).set hns _).set hns _).set hns _
    exact qH (qB true) ((zAs (β := Unit) D _ _ (fun _ => vU f s (List.range' i (j + 1 - i)))).putObj (s := ()) _ hYd (zC _) hYD rfl) (qN _ _) (fun b h _ => Nat.le_trans qD h.1)
   ·exact hYb.trans (belowK_b (w := w) (zC _) Y D _ _ qD hYD rfl rfl)
 case stop =>
  rintro D c pre W _ _ h _;exact h.elim
end Go.Proofs.YtcliojeoindceaaGreatDoor
