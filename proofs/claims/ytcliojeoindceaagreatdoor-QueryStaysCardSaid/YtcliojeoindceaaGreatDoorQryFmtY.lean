/- Parts of the proof. -/
import Derived.Test.YtcliojeoindceaaGreatDoorStyToggleY
import Derived.Test.YtcliojeoindceaaGreatDoorRunesY
import Derived.Test.YtcliojeoindceaaGreatDoorQryAllY
import Derived.Test.YtcliojeoindceaaGreatDoorKeys3Y
set_option linter.unusedVariables false
set_option linter.unusedSimpArgs false
set_option maxHeartbeats 8000000
namespace Go.Proofs.YtcliojeoindceaaGreatDoor
open Go.RowKit
open Go.Proofs.Qw
attribute [local go_sem] Oper.semAt_some
open _root_.Go.Lib renaming hid → zA
open _root_.And renaming intro → zB
open _root_.Nat renaming le_refl → zC
open _root_.Go.RowKit.Below renaming refl → zE, setCell → zF, alloc → zG, drew → zH
open _root_.Go.BigFrame renaming wpQuiet_want → zI, wpQuiet_skip → zJ
open _root_.Array renaming getElem?_eq_some_iff → zL
open _root_.Go renaming bodyPost_ret → zM
open _root_.Int renaming natCast_nonneg → zR
open _root_.Go.Act renaming put → zU
open _root_.Go.Proofs.Tryz renaming prog → zV
open _root_.Go.Proofs.YtcliojeoindceaaGreatDoor renaming jG → zX, jI → zY, jK → zZ, jF → qG, jQ → qR, jO → qT
open _root_.Go.Proofs.Qw renaming jW → qB, kG → qL, uJ → qM
open _root_.Go.Proofs.Qw.SliceR renaming stable → qH
open _root_.Go.Proofs.Qw.Keeps renaming refl → qN, alloc → qO, drew → qP, set → qQ
theorem zEm (w : World) (B : Nat) {x0 x1 x2 x3 x4 x5 x6 : Value} {t : TypeId} (h : w.heap[B]? = some (.cells #[x0, x1, x2, x3, x4, x5, x6] t)) (a b c d e f g : Value) :
  ∃ W, ((((((w.setCell ⟨B, 0, none⟩ a).setCell ⟨B, 1, none⟩ b).setCell ⟨B, 2, none⟩ c).setCell ⟨B, 3, none⟩ d).setCell ⟨B, 4, none⟩ e).setCell ⟨B, 5, none⟩ f).setCell ⟨B, 6, none⟩ g = W ∧
   W.heap[B]? = some (.cells #[a, b, c, d, e, f, g] t) ∧ (∀ n, n ≤ B → Below n w W) ∧ (∀ k, k ≠ B → W.heap[k]? = w.heap[k]?) ∧ W.heap.size = w.heap.size :=
 ⟨_, rfl, by simp [qT, jA, h], fun n hn => (((((((zE _ _).setCell hn _).setCell hn _).setCell hn _).setCell hn _).setCell hn _).setCell hn _).setCell hn _, fun k hk => by simp [qT, Ne.symm hk], by simp⟩
theorem zBM {α : Type} {t : TypeId} {k : Nat} {enc : α → List Value} (hk : ∀ x, (enc x).length = k) {w : World} {S : Nat → Prop} {b : Nat} (xs : List α) (h : w.heap[b]? = some (.cells (xs.map enc).flatten.toArray t)) (hS : S b) (hm : xs.length ≤ maxLen) {u : TypeId} :
  SliceR u k (rdOf enc) false w S (.slice (some ⟨b, 0, none⟩) xs.length xs.length) xs := by
 refine ⟨_, xs.length, rfl, zC _, hm, .inr ⟨b, 0, rfl, hS, (zL.1 h).1, fun h => kY, fun i x hx => ⟨enc x, hk x, rfl, fun j u hu => ?_⟩⟩⟩;rw [jT h, Nat.zero_add, List.getElem?_toArray];exact zCz (xs.map enc) i (enc x) j u (by simp; intro a _; exact hk a) (by rw [List.getElem?_map, hx]; rfl) hu
set_option maxRecDepth 100000 in
theorem zHT (v : Value) (s : St) (t : Int) (w : World) (S : Nat → Prop) (h : jD w S v s.lines) (he : EnvT w) (hs : Small s.lines) (hf : Fits s.lines) :
  Calls zV 155 #[stV v s, .int .i64 t] w (StSaid (vS s t) w) := by
 obtain ⟨W1, hW1, hB, hz, k0, k1, k2⟩ := zDO w v s (.int .i64 t) 3;have HB : Hid (∀ W, Below W1.heap.size W1 W → W.heap[w.heap.size]? = some (.cells #[v, .int .i64 s.anc.line, .int .i64 s.anc.col, .int .i64 s.foc.line, .int .i64 s.foc.col, .int .i64 s.on, .int .i64 s.off] 26) ∧ W.heap[w.heap.size + 1]? = some (.cells #[.int .i64 t] 3) ∧ W.heap[w.heap.size + 2]? = some (.cells #[.slice none 0 0, .int .i64 0, .int .i64 0, .int .i64 0, .int .i64 0, .int .i64 0, .int .i64 0] 26)) := zA fun W hW => ⟨zY hW k0, zY hW k1, zY hW k2⟩;have hs1 := hB.size;have H1 := zA hB;have hw0 : Below W1.heap.size W1 W1 := zE _ _;have HV : Hid (∀ W, Below W1.heap.size W1 W → jD W S v s.lines) := zA fun W hW => h.below (qB _) (hB.trans (hW.mono hs1));have HE : Hid (∀ W, Below W1.heap.size W1 W → EnvT W) := zA fun W hW => (he.below hB).below hW;have HM : Hid (∀ W, Below W1.heap.size W1 W → Calls zV 23 #[stV v s] W fun e w' => e = .returned (.bool (mayS s)) ∧ Below W.heap.size W w') := zA fun W hW => vV v s W S (HV.out W hW) (HE.out W hW) hs;have HO : Hid (∀ W, Below W1.heap.size W1 W → Calls zV 115 #[stV v s] W fun e w' => e = .returned (.bool (!decide (s.anc = s.foc))) ∧ Below W.heap.size W w') := zA fun W hW => zCs v s W;have HBi : Hid (∀ W, Below W1.heap.size W1 W → Calls zV 112 #[stV v s] W fun e w' => e = .returned (.int .i64 (yH s)) ∧ Below W.heap.size W w') := zA fun W hW => zFg v s W S (HV.out W hW) (HE.out W hW) hs hf;have HOw : Hid (∀ W, Below W1.heap.size W1 W → Calls zV 31 #[stV v s] W fun e w' => ∃ v', e = .returned (stV v' s) ∧ DocR true w' (fun b => W.heap.size ≤ b) v' s.lines ∧ Below W.heap.size W w') := zA fun W hW => zDP v s W S (HV.out W hW) hf
 have HCh : Hid (mayS s = true → ∀ W, Below W1.heap.size W1 W → Calls zV 156 #[stV v s, .func (.func 242) #[] #[.pointer (some ⟨w.heap.size + 1, 0, none⟩)]] W (StSaid (yM s (togD s t)) W)) := zA fun hm W hW => by
  have := zCj v s 242 #[.pointer (some ⟨w.heap.size + 1, 0, none⟩)] (togD s t) W S (HV.out W hW) (HE.out W hW) hs (enters_of Tryz.func242 zT rfl)
   (fun _ X hX => zHD (w.heap.size + 1) v s.lines (qV s).1 (qV s).2 t X S (HV.out X (zX hW hX)) (HE.out X (zX hW hX)) hs hf (HB.out X (zX hW hX)).2.1)
  unfold xI at this;rw [if_pos hm] at this;exact this
 have HT : Hid (∀ W : World, Calls zV 240 #[] W fun e w' => e = .returned (.agg #[.int .i64 1, .int .i64 2, .int .i64 4, .int .i64 8]) ∧ Below W.heap.size W w') := zA fun W => by
  go_enter Tryz.func240, Tryz.ntmps240;go_wp2_with fail;refine zM (results_cell_row rfl _ _ W.heap.size _ _ _ _ rfl (qG _ _ rfl) Tryz.underlying207 rfl zT) rfl ?_;exact ⟨rfl, by ((with_reducible repeat' first | exact zE _ _ | assumption | refine zG ?_ ?_ _ | refine zH ?_ | refine qR ?_ | refine zF ?_ ?_ _) <;> go_size)⟩
 have HR : Hid (vS s t = if mayS s = true ∧ four t = true then (if s.anc = s.foc then (togC s t, 0) else yM s (togD s t)) else (noS, 1)) := zA rfl;have HTC : Hid (togC s t = ⟨s.lines, s.anc, s.foc, bits .or .i64 (bits .andNot .i64 s.on t) (bits .andNot .i64 t (yH s)), bits .or .i64 (bits .andNot .i64 s.off t) (bits .andNot .i64 t (bits .andNot .i64 t (yH s)))⟩) := zA rfl;obtain ⟨va, vc, rfl⟩ := h.slice;clear h he hs hf hB;obtain ⟨w2, hw2⟩ : ∃ w2, W1 = w2 := ⟨_, rfl⟩;cases hm : mayS s
 ·rw [hm] at HM HR
  have HR2 : Hid (vS s t = (noS, 1)) := zA (HR.out.trans (if_neg qF));obtain ⟨p0, f0⟩ := blk k0;clear HR HCh hm k0 k1 k2 hw2;go_enter Tryz.func155, Tryz.ntmps155;go_wp2_with (go_at_call 240; refine (HT.out _).mono ?_; rintro e w2 ⟨rfl, hst2⟩);have hb2 := zX hw0 hst2;obtain ⟨w3, hw3⟩ : ∃ w3, w2.alloc (.cells #[.int .i64 1, .int .i64 2, .int .i64 4, .int .i64 8] 207) = w3 := ⟨_, rfl⟩;rw [hw3];have hb23 : Below w2.heap.size w2 w3 := hw3 ▸ yP (zE _ _) _;have n3 : w3.heap[w2.heap.size]? = some (.cells #[.int .i64 1, .int .i64 2, .int .i64 4, .int .i64 8] 207) := hw3 ▸ qG _ _ rfl;have hb3 := zX hb2 hb23
  have HCt : Hid (∀ W, Below w3.heap.size w3 W → Calls zV 241 #[.slice (some ⟨w2.heap.size, 0, none⟩) 4 4, .int .i64 t] W fun e w' => e = .returned (.bool (four t)) ∧ Below W.heap.size W w') := zA fun W hW => by
   have := zCh _ [1, 2, 4, 8] t W (fun _ => True) (zBM (enc := yZ) (fun _ => rfl) [1, 2, 4, 8] (zY hW n3) trivial qW);rw [zCG] at this;exact this.mono fun _ _ ⟨h1, h2⟩ => ⟨h1, h2 ▸ zE _ _⟩
  clear hw3 n3 p0 f0;refine xN w3.heap.size zT zT ?_;refine zI zT (fun K hK => ?_);refine qL ?_ (fun W hW => ?_) (hK _ ?_);rotate_left 1
  ·skip
   obtain ⟨p0, f0⟩ := blk (HB.out _ (zX hb3 hW)).1;obtain ⟨p1, f1⟩ := blk (HB.out _ (zX hb3 hW)).2.1;go_simp
   try rfl
  clear hK;clear K;try simp only [zU, qI, qX, qY]
  refine zI zT (fun K hK => ?_);refine qM (f := ?_) (args := ?_) ?_ (fun W hW => ?_) (fun W hW => ?_) (hK _ ?_);rotate_left 3
  ·go_simp
   constructor <;> rfl
  ·refine (HM.out _ (zX hb3 hW)).mono ?_
   rintro e W2 ⟨rfl, hbW⟩;refine ⟨?_, zX hW hbW⟩
   rfl
  clear hK;clear K;try simp only [zU, qI, qX, qY]
  refine zI zT (fun K hK => ?_);refine qL ?_ (fun W hW => ?_) (hK _ ?_);rotate_left 1
  ·skip
   go_simp
   try rfl
  clear hK;clear K;try simp only [zU, qI, qX, qY]
  refine zI zT (fun K hK => ?_);refine qL ?_ (fun W hW => ?_) (hK _ ?_);rotate_left 1
  ·skip
   go_simp
   try rfl
  clear hK;clear K;try simp only [zU, qI, qX, qY]
  refine zJ zT ?_;try simp only [zU, qI, qX, qY]
  refine zJ zT ?_;try simp only [zU, qI, qX, qY]
  refine zJ zT ?_;try simp only [zU, qI, qX, qY]
  refine zJ zT ?_;try simp only [zU, qI, qX, qY]
  refine zI zT (fun K hK => ?_);refine qL ?_ (fun W hW => ?_) (hK _ ?_);rotate_left 1
  ·skip
   go_simp
   try rfl
  clear hK;clear K;try simp only [zU, qI, qX, qY]
  refine zI zT (fun K hK => ?_);refine qL ?_ (fun W hW => ?_) (hK _ ?_);rotate_left 1
  ·skip
   go_simp
   try rfl
  clear hK;clear K;try simp only [zU, qI, qX, qY]
  refine wpQuiet_nil (fun X6 hstX6 => ?_);have hcX6 := zX hb3 hstX6;obtain ⟨p2, f2⟩ := blk (HB.out _ hcX6).2.2;go_wp2_with fail;refine zM (jS rfl _ _ (w.heap.size + 2) (.slice none 0 0) (.int .i64 0) (.int .i64 0) (.int .i64 0) (.int .i64 0) (.int .i64 0) (.int .i64 0) (.int .i64 1) rfl rfl (by simp [qT, jA, (HB.out _ hcX6).2.2])) rfl ?_;unfold StSaid;rw [HR2.out];have hfin := H1.out.trans (hcX6.mono hs1);exact ⟨_, rfl, SliceR.nil _ _ _ _ _ _, by ((with_reducible repeat' first | exact zE _ _ | assumption | refine zG ?_ ?_ _ | refine zH ?_ | refine qR ?_ | refine zF ?_ ?_ _) <;> go_size)⟩
 ·have HCh2 := zA (HCh.out hm)
  rw [hm] at HM HR;clear HCh hm hw2;cases hfo : four t
  ·rw [hfo] at HR
   have HF := zA hfo;have HR2 : Hid (vS s t = (noS, 1)) := zA (HR.out.trans (if_neg qF));obtain ⟨p0, f0⟩ := blk k0;clear HR HCh2 hfo k0 k1 k2;go_enter Tryz.func155, Tryz.ntmps155;go_wp2_with (go_at_call 240; refine (HT.out _).mono ?_; rintro e w2 ⟨rfl, hst2⟩);have hb2 := zX hw0 hst2;obtain ⟨w3, hw3⟩ : ∃ w3, w2.alloc (.cells #[.int .i64 1, .int .i64 2, .int .i64 4, .int .i64 8] 207) = w3 := ⟨_, rfl⟩;rw [hw3];have hb23 : Below w2.heap.size w2 w3 := hw3 ▸ yP (zE _ _) _;have n3 : w3.heap[w2.heap.size]? = some (.cells #[.int .i64 1, .int .i64 2, .int .i64 4, .int .i64 8] 207) := hw3 ▸ qG _ _ rfl;have hb3 := zX hb2 hb23
   have HCt : Hid (∀ W, Below w3.heap.size w3 W → Calls zV 241 #[.slice (some ⟨w2.heap.size, 0, none⟩) 4 4, .int .i64 t] W fun e w' => e = .returned (.bool (four t)) ∧ Below W.heap.size W w') := zA fun W hW => by
    have := zCh _ [1, 2, 4, 8] t W (fun _ => True) (zBM (enc := yZ) (fun _ => rfl) [1, 2, 4, 8] (zY hW n3) trivial qW);rw [zCG] at this;exact this.mono fun _ _ ⟨h1, h2⟩ => ⟨h1, h2 ▸ zE _ _⟩
   clear hw3 n3 p0 f0;rw [HF.out] at HCt;refine xN w3.heap.size zT zT ?_;refine zI zT (fun K hK => ?_);refine qL ?_ (fun W hW => ?_) (hK _ ?_);rotate_left 1
   ·skip
    obtain ⟨p0, f0⟩ := blk (HB.out _ (zX hb3 hW)).1;obtain ⟨p1, f1⟩ := blk (HB.out _ (zX hb3 hW)).2.1;go_simp
    try rfl
   clear hK;clear K;try simp only [zU, qI, qX, qY]
   refine zI zT (fun K hK => ?_);refine qM (f := ?_) (args := ?_) ?_ (fun W hW => ?_) (fun W hW => ?_) (hK _ ?_);rotate_left 3
   ·go_simp
    constructor <;> rfl
   ·refine (HM.out _ (zX hb3 hW)).mono ?_
    rintro e W2 ⟨rfl, hbW⟩;refine ⟨?_, zX hW hbW⟩
    rfl
   clear hK;clear K;try simp only [zU, qI, qX, qY]
   refine zI zT (fun K hK => ?_);refine qL ?_ (fun W hW => ?_) (hK _ ?_);rotate_left 1
   ·skip
    go_simp
    try rfl
   clear hK;clear K;try simp only [zU, qI, qX, qY]
   refine zI zT (fun K hK => ?_);refine qL ?_ (fun W hW => ?_) (hK _ ?_);rotate_left 1
   ·skip
    go_simp
    try rfl
   clear hK;clear K;try simp only [zU, qI, qX, qY]
   refine zI zT (fun K hK => ?_);refine qL ?_ (fun W hW => ?_) (hK _ ?_);rotate_left 1
   ·skip
    go_simp
    try rfl
   clear hK;clear K;try simp only [zU, qI, qX, qY]
   refine zI zT (fun K hK => ?_);refine qL ?_ (fun W hW => ?_) (hK _ ?_);rotate_left 1
   ·skip
    obtain ⟨p0, f0⟩ := blk (HB.out _ (zX hb3 hW)).1;obtain ⟨p1, f1⟩ := blk (HB.out _ (zX hb3 hW)).2.1;go_simp
    try rfl
   clear hK;clear K;try simp only [zU, qI, qX, qY]
   refine zI zT (fun K hK => ?_);refine qM (f := ?_) (args := ?_) ?_ (fun W hW => ?_) (fun W hW => ?_) (hK _ ?_);rotate_left 3
   ·go_simp
    constructor <;> rfl
   ·refine (HCt.out _ hW).mono ?_
    rintro e W2 ⟨rfl, hbW⟩;refine ⟨?_, zX hW hbW⟩
    rfl
   clear hK;clear K;try simp only [zU, qI, qX, qY]
   refine zI zT (fun K hK => ?_);refine qL ?_ (fun W hW => ?_) (hK _ ?_);rotate_left 1
   ·skip
    go_simp
    try rfl
   clear hK;clear K;try simp only [zU, qI, qX, qY]
   refine zI zT (fun K hK => ?_);refine qL ?_ (fun W hW => ?_) (hK _ ?_);rotate_left 1
   ·skip
    go_simp
    try rfl
   clear hK;clear K;try simp only [zU, qI, qX, qY]
   refine zI zT (fun K hK => ?_);refine qL ?_ (fun W hW => ?_) (hK _ ?_);rotate_left 1
   ·skip
    go_simp
    try rfl
   clear hK;clear K;try simp only [zU, qI, qX, qY]
   refine wpQuiet_nil (fun X6 hstX6 => ?_);have hcX6 := zX hb3 hstX6;obtain ⟨p2, f2⟩ := blk (HB.out _ hcX6).2.2;go_wp2_with fail;refine zM (jS rfl _ _ (w.heap.size + 2) (.slice none 0 0) (.int .i64 0) (.int .i64 0) (.int .i64 0) (.int .i64 0) (.int .i64 0) (.int .i64 0) (.int .i64 1) rfl rfl (by simp [qT, jA, (HB.out _ hcX6).2.2])) rfl ?_;unfold StSaid;rw [HR2.out];have hfin := H1.out.trans (hcX6.mono hs1);exact ⟨_, rfl, SliceR.nil _ _ _ _ _ _, by ((with_reducible repeat' first | exact zE _ _ | assumption | refine zG ?_ ?_ _ | refine zH ?_ | refine qR ?_ | refine zF ?_ ?_ _) <;> go_size)⟩
  ·rw [hfo] at HR
   have HF := zA hfo;rw [if_pos ⟨rfl, rfl⟩] at HR
   by_cases hc : s.anc = s.foc
   ·have HR2 : Hid (vS s t = (togC s t, 0)) := zA (HR.out.trans (if_pos hc))
    rw [decide_eq_true hc] at HO;obtain ⟨p0, f0⟩ := blk k0;obtain ⟨r, hr⟩ : ∃ r, yH s = r := ⟨_, rfl⟩;rw [hr] at HBi HTC;clear HR HCh2 hfo hc hr k0 k1 k2;go_enter Tryz.func155, Tryz.ntmps155;go_wp2_with (go_at_call 240; refine (HT.out _).mono ?_; rintro e w2 ⟨rfl, hst2⟩);have hb2 := zX hw0 hst2;obtain ⟨w3, hw3⟩ : ∃ w3, w2.alloc (.cells #[.int .i64 1, .int .i64 2, .int .i64 4, .int .i64 8] 207) = w3 := ⟨_, rfl⟩;rw [hw3];have hb23 : Below w2.heap.size w2 w3 := hw3 ▸ yP (zE _ _) _;have n3 : w3.heap[w2.heap.size]? = some (.cells #[.int .i64 1, .int .i64 2, .int .i64 4, .int .i64 8] 207) := hw3 ▸ qG _ _ rfl;have hb3 := zX hb2 hb23
    have HCt : Hid (∀ W, Below w3.heap.size w3 W → Calls zV 241 #[.slice (some ⟨w2.heap.size, 0, none⟩) 4 4, .int .i64 t] W fun e w' => e = .returned (.bool (four t)) ∧ Below W.heap.size W w') := zA fun W hW => by
     have := zCh _ [1, 2, 4, 8] t W (fun _ => True) (zBM (enc := yZ) (fun _ => rfl) [1, 2, 4, 8] (zY hW n3) trivial qW);rw [zCG] at this;exact this.mono fun _ _ ⟨h1, h2⟩ => ⟨h1, h2 ▸ zE _ _⟩
    clear hw3 n3 p0 f0;rw [HF.out] at HCt;refine xN w3.heap.size zT zT ?_;refine zI zT (fun K hK => ?_);refine qL ?_ (fun W hW => ?_) (hK _ ?_);rotate_left 1
    ·skip
     obtain ⟨p0, f0⟩ := blk (HB.out _ (zX hb3 hW)).1;obtain ⟨p1, f1⟩ := blk (HB.out _ (zX hb3 hW)).2.1;go_simp
     try rfl
    clear hK;clear K;try simp only [zU, qI, qX, qY]
    refine zI zT (fun K hK => ?_);refine qM (f := ?_) (args := ?_) ?_ (fun W hW => ?_) (fun W hW => ?_) (hK _ ?_);rotate_left 3
    ·go_simp
     constructor <;> rfl
    ·refine (HM.out _ (zX hb3 hW)).mono ?_
     rintro e W2 ⟨rfl, hbW⟩;refine ⟨?_, zX hW hbW⟩
     rfl
    clear hK;clear K;try simp only [zU, qI, qX, qY]
    refine zI zT (fun K hK => ?_);refine qL ?_ (fun W hW => ?_) (hK _ ?_);rotate_left 1
    ·skip
     go_simp
     try rfl
    clear hK;clear K;try simp only [zU, qI, qX, qY]
    refine zI zT (fun K hK => ?_);refine qL ?_ (fun W hW => ?_) (hK _ ?_);rotate_left 1
    ·skip
     go_simp
     try rfl
    clear hK;clear K;try simp only [zU, qI, qX, qY]
    refine zI zT (fun K hK => ?_);refine qL ?_ (fun W hW => ?_) (hK _ ?_);rotate_left 1
    ·skip
     go_simp
     try rfl
    clear hK;clear K;try simp only [zU, qI, qX, qY]
    refine zI zT (fun K hK => ?_);refine qL ?_ (fun W hW => ?_) (hK _ ?_);rotate_left 1
    ·skip
     obtain ⟨p0, f0⟩ := blk (HB.out _ (zX hb3 hW)).1;obtain ⟨p1, f1⟩ := blk (HB.out _ (zX hb3 hW)).2.1;go_simp
     try rfl
    clear hK;clear K;try simp only [zU, qI, qX, qY]
    refine zI zT (fun K hK => ?_);refine qM (f := ?_) (args := ?_) ?_ (fun W hW => ?_) (fun W hW => ?_) (hK _ ?_);rotate_left 3
    ·go_simp
     constructor <;> rfl
    ·refine (HCt.out _ hW).mono ?_
     rintro e W2 ⟨rfl, hbW⟩;refine ⟨?_, zX hW hbW⟩
     rfl
    clear hK;clear K;try simp only [zU, qI, qX, qY]
    refine zI zT (fun K hK => ?_);refine qL ?_ (fun W hW => ?_) (hK _ ?_);rotate_left 1
    ·skip
     go_simp
     try rfl
    clear hK;clear K;try simp only [zU, qI, qX, qY]
    refine zI zT (fun K hK => ?_);refine qL ?_ (fun W hW => ?_) (hK _ ?_);rotate_left 1
    ·skip
     go_simp
     try rfl
    clear hK;clear K;try simp only [zU, qI, qX, qY]
    refine zI zT (fun K hK => ?_);refine qL ?_ (fun W hW => ?_) (hK _ ?_);rotate_left 1
    ·skip
     go_simp
     try rfl
    clear hK;clear K;try simp only [zU, qI, qX, qY]
    refine wpQuiet_nil (fun X6 hstX6 => ?_);have hcX6 := zX hb3 hstX6;obtain ⟨p0, f0⟩ := blk (HB.out _ hcX6).1;go_wp2_with (go_at_call 115; refine (HO.out _ hcX6).mono ?_; rintro e w7 ⟨rfl, hst7⟩; have hb7 := zX hcX6 hst7; skip);clear p0 f0;refine xN w7.heap.size zT zT ?_;refine zI zT (fun K hK => ?_);refine qL ?_ (fun W hW => ?_) (hK _ ?_);rotate_left 1
    ·skip
     obtain ⟨p0, f0⟩ := blk (HB.out _ (zX hb7 hW)).1;obtain ⟨p1, f1⟩ := blk (HB.out _ (zX hb7 hW)).2.1;go_simp
     try rfl
    clear hK;clear K;try simp only [zU, qI, qX, qY]
    refine zI zT (fun K hK => ?_);refine qL ?_ (fun W hW => ?_) (hK _ ?_);rotate_left 1
    ·skip
     obtain ⟨p0, f0⟩ := blk (HB.out _ (zX hb7 hW)).1;obtain ⟨p1, f1⟩ := blk (HB.out _ (zX hb7 hW)).2.1;go_simp
     try rfl
    clear hK;clear K;try simp only [zU, qI, qX, qY]
    refine zI zT (fun K hK => ?_);refine qM (f := ?_) (args := ?_) ?_ (fun W hW => ?_) (fun W hW => ?_) (hK _ ?_);rotate_left 3
    ·go_simp
     constructor <;> rfl
    ·refine (HBi.out _ (zX hb7 hW)).mono ?_
     rintro e W2 ⟨rfl, hbW⟩;refine ⟨?_, zX hW hbW⟩
     rfl
    clear hK;clear K;try simp only [zU, qI, qX, qY]
    refine zI zT (fun K hK => ?_);refine qL ?_ (fun W hW => ?_) (hK _ ?_);rotate_left 1
    ·skip
     go_simp
     try rfl
    clear hK;clear K;try simp only [zU, qI, qX, qY]
    refine zI zT (fun K hK => ?_);refine qL ?_ (fun W hW => ?_) (hK _ ?_);rotate_left 1
    ·skip
     go_simp
     try rfl
    clear hK;clear K;try simp only [zU, qI, qX, qY]
    refine wpQuiet_nil (fun X8 hstX8 => ?_);have hcX8 := zX hb7 hstX8;obtain ⟨p0, f0⟩ := blk (HB.out _ hcX8).1;go_wp2_with (go_at_call 31; refine (HOw.out _ hcX8).mono ?_; rintro e w9 ⟨v9, rfl, hv9, hst9⟩; obtain ⟨a9, c9, rfl⟩ := hv9.slice; have hb9 := zX hcX8 hst9; have HV9 := zA hv9; clear hv9; obtain ⟨q0, g0⟩ := blk (HB.out _ hb9).1);obtain ⟨w10, hw10, n10, b10, o10, z10⟩ := zEm w9 w.heap.size (HB.out _ hb9).1 (.slice a9 s.lines.length c9) (.int .i64 s.anc.line) (.int .i64 s.anc.col) (.int .i64 s.foc.line) (.int .i64 s.foc.col) (.int .i64 s.on) (.int .i64 s.off);rw [hw10];have HX10 := zA (zB n10 (zB ((o10 (w.heap.size + 1) qD).trans (HB.out _ hb9).2.1) (zB ((o10 (w.heap.size + 2) qD).trans (HB.out _ hb9).2.2) (zB b10 (zB o10 z10)))));clear hw10 q0 g0 n10 b10 o10 z10 p0 f0;obtain ⟨p0, f0⟩ := blk HX10.out.1;obtain ⟨p1, f1⟩ := blk HX10.out.2.1;obtain ⟨p2, f2⟩ := blk HX10.out.2.2.1;go_region;go_wp2_with fail;refine zM (jS rfl _ _ (w.heap.size + 2) (.slice a9 s.lines.length c9) (.int .i64 s.anc.line) (.int .i64 s.anc.col) (.int .i64 s.foc.line) (.int .i64 s.foc.col) (.int .i64 (bits .or .i64 (bits .andNot .i64 s.on t) (bits .andNot .i64 t r))) (.int .i64 (bits .or .i64 (bits .andNot .i64 s.off t) (bits .andNot .i64 t (bits .andNot .i64 t r)))) (.int .i64 0) rfl rfl (by rw [xS]; simp [qT, jA, HX10.out.2.2.1])) rfl ?_;unfold StSaid;rw [HR2.out, HTC.out];have hb10 : Below w.heap.size w w10 := (H1.out.trans (hb9.mono hs1)).trans (HX10.out.2.2.2.1 _ (zC _));have hv10 : DocR true w10 (fun b => w.heap.size + 3 ≤ b) (.slice a9 s.lines.length c9) s.lines := qH (qB true) HV9.out ⟨Nat.le_of_eq HX10.out.2.2.2.2.2.symm, fun b hb _ => HX10.out.2.2.2.2.1 b (fun e => by have hb : X8.heap.size ≤ b := hb; have := hcX8.size; omega)⟩ (fun b hb _ => by have hb : X8.heap.size ≤ b := hb; have := hcX8.size; show w.heap.size + 3 ≤ b; omega);exact ⟨_, rfl, (qH (qB _) hv10 zEq (fun b h _ => jL)), by ((with_reducible repeat' first | exact zE _ _ | assumption | refine zG ?_ ?_ _ | refine zH ?_ | refine qR ?_ | refine zF ?_ ?_ _) <;> go_size)⟩
   ·have HR2 : Hid (vS s t = yM s (togD s t)) := zA (HR.out.trans (if_neg hc))
    rw [decide_eq_false hc] at HO;obtain ⟨X, hX⟩ : ∃ X, yM s (togD s t) = X := ⟨_, rfl⟩;rw [hX] at HCh2 HR2;obtain ⟨p0, f0⟩ := blk k0;clear HR hfo hc hX k0 k1 k2;go_enter Tryz.func155, Tryz.ntmps155;go_wp2_with (go_at_call 240; refine (HT.out _).mono ?_; rintro e w2 ⟨rfl, hst2⟩);have hb2 := zX hw0 hst2;obtain ⟨w3, hw3⟩ : ∃ w3, w2.alloc (.cells #[.int .i64 1, .int .i64 2, .int .i64 4, .int .i64 8] 207) = w3 := ⟨_, rfl⟩;rw [hw3];have hb23 : Below w2.heap.size w2 w3 := hw3 ▸ yP (zE _ _) _;have n3 : w3.heap[w2.heap.size]? = some (.cells #[.int .i64 1, .int .i64 2, .int .i64 4, .int .i64 8] 207) := hw3 ▸ qG _ _ rfl;have hb3 := zX hb2 hb23
    have HCt : Hid (∀ W, Below w3.heap.size w3 W → Calls zV 241 #[.slice (some ⟨w2.heap.size, 0, none⟩) 4 4, .int .i64 t] W fun e w' => e = .returned (.bool (four t)) ∧ Below W.heap.size W w') := zA fun W hW => by
     have := zCh _ [1, 2, 4, 8] t W (fun _ => True) (zBM (enc := yZ) (fun _ => rfl) [1, 2, 4, 8] (zY hW n3) trivial qW);rw [zCG] at this;exact this.mono fun _ _ ⟨h1, h2⟩ => ⟨h1, h2 ▸ zE _ _⟩
    clear hw3 n3 p0 f0;rw [HF.out] at HCt;refine xN w3.heap.size zT zT ?_;refine zI zT (fun K hK => ?_);refine qL ?_ (fun W hW => ?_) (hK _ ?_);rotate_left 1
    ·skip
     obtain ⟨p0, f0⟩ := blk (HB.out _ (zX hb3 hW)).1;obtain ⟨p1, f1⟩ := blk (HB.out _ (zX hb3 hW)).2.1;go_simp
     try rfl
    clear hK;clear K;try simp only [zU, qI, qX, qY]
    refine zI zT (fun K hK => ?_);refine qM (f := ?_) (args := ?_) ?_ (fun W hW => ?_) (fun W hW => ?_) (hK _ ?_);rotate_left 3
    ·go_simp
     constructor <;> rfl
    ·refine (HM.out _ (zX hb3 hW)).mono ?_
     rintro e W2 ⟨rfl, hbW⟩;refine ⟨?_, zX hW hbW⟩
     rfl
    clear hK;clear K;try simp only [zU, qI, qX, qY]
    refine zI zT (fun K hK => ?_);refine qL ?_ (fun W hW => ?_) (hK _ ?_);rotate_left 1
    ·skip
     go_simp
     try rfl
    clear hK;clear K;try simp only [zU, qI, qX, qY]
    refine zI zT (fun K hK => ?_);refine qL ?_ (fun W hW => ?_) (hK _ ?_);rotate_left 1
    ·skip
     go_simp
     try rfl
    clear hK;clear K;try simp only [zU, qI, qX, qY]
    refine zI zT (fun K hK => ?_);refine qL ?_ (fun W hW => ?_) (hK _ ?_);rotate_left 1
    ·skip
     go_simp
     try rfl
    clear hK;clear K;try simp only [zU, qI, qX, qY]
    refine zI zT (fun K hK => ?_);refine qL ?_ (fun W hW => ?_) (hK _ ?_);rotate_left 1
    ·skip
     obtain ⟨p0, f0⟩ := blk (HB.out _ (zX hb3 hW)).1;obtain ⟨p1, f1⟩ := blk (HB.out _ (zX hb3 hW)).2.1;go_simp
     try rfl
    clear hK;clear K;try simp only [zU, qI, qX, qY]
    refine zI zT (fun K hK => ?_);refine qM (f := ?_) (args := ?_) ?_ (fun W hW => ?_) (fun W hW => ?_) (hK _ ?_);rotate_left 3
    ·go_simp
     constructor <;> rfl
    ·refine (HCt.out _ hW).mono ?_
     rintro e W2 ⟨rfl, hbW⟩;refine ⟨?_, zX hW hbW⟩
     rfl
    clear hK;clear K;try simp only [zU, qI, qX, qY]
    refine zI zT (fun K hK => ?_);refine qL ?_ (fun W hW => ?_) (hK _ ?_);rotate_left 1
    ·skip
     go_simp
     try rfl
    clear hK;clear K;try simp only [zU, qI, qX, qY]
    refine zI zT (fun K hK => ?_);refine qL ?_ (fun W hW => ?_) (hK _ ?_);rotate_left 1
    ·skip
     go_simp
     try rfl
    clear hK;clear K;try simp only [zU, qI, qX, qY]
    refine zI zT (fun K hK => ?_);refine qL ?_ (fun W hW => ?_) (hK _ ?_);rotate_left 1
    ·skip
     go_simp
     try rfl
    clear hK;clear K;try simp only [zU, qI, qX, qY]
    refine wpQuiet_nil (fun X6 hstX6 => ?_);have hcX6 := zX hb3 hstX6;obtain ⟨p0, f0⟩ := blk (HB.out _ hcX6).1
    go_wp2_with (first
     | (go_at_call 115; refine (HO.out _ hcX6).mono ?_; rintro e w7 ⟨rfl, hst7⟩; have hb7 := zX hcX6 hst7; obtain ⟨q0, g0⟩ := blk (HB.out _ hb7).1)
     | (go_at_call 156; refine (HCh2.out _ hb7).mono ?_; intro e w8 hsaid; obtain ⟨v8, rfl, hv8, hst8⟩ := hsaid; obtain ⟨a8, c8, rfl⟩ := hv8.slice; have hb8 := zX hb7 hst8; have HV8 := zA hv8; clear hv8; obtain ⟨q2, g2⟩ := blk (HB.out _ hb8).2.2))
    refine zM (jS rfl _ _ (w.heap.size + 2) (.slice a8 X.1.lines.length c8) (.int .i64 X.1.anc.line) (.int .i64 X.1.anc.col) (.int .i64 X.1.foc.line) (.int .i64 X.1.foc.col) (.int .i64 X.1.on) (.int .i64 X.1.off) (.int .i64 X.2) rfl rfl (by simp [qT, jA, (HB.out _ hb8).2.2])) rfl ?_;unfold StSaid;rw [HR2.out];have hfin := H1.out.trans (hb8.mono hs1);have hv8 := HV8.out;have hz7 := hb7.size;exact ⟨_, rfl, (qH (qB _) hv8 jN (fun b h _ => jL)), by ((with_reducible repeat' first | exact zE _ _ | assumption | refine zG ?_ ?_ _ | refine zH ?_ | refine qR ?_ | refine zF ?_ ?_ _) <;> go_size)⟩
theorem zEM {fn : Func} {p u : Tmp} (h : fn.results = #[.cell p 22, .cell u 30]) (tmps : Array Value) (w : World) (a b : Addr) (x : Value) (y : Int) (hx : ∃ c n k, x = .slice c n k) (hp : tmps.getD p undef = .pointer (some a)) (hu : tmps.getD u undef = .pointer (some b)) (h1 : w.cell? a = some x) (h2 : w.cell? b = some (.int .i64 y)) :
  (results fn tmps).run zV w = .ok (.tuple #[x, .int .i64 y]) w := by
 obtain ⟨c, n, k, rfl⟩ := hx;simp only [results, h];simp at hp hu;simp [go_sem, hp, hu, h1, h2]
def UI (w6 : World) (pre : List Cel) (W : World) : Prop := (∀ c ∈ pre, c.href = []) ∧ Below w6.heap.size w6 W ∧ w6.heap.size ≤ W.heap.size
theorem zNn (w6 : World) : OwnFrom w6.heap.size (UI w6) := fun s X Y row ⟨h1, h2, h3⟩ hg hr => ⟨h1, ownFrom_below (zC _) (zC _) s X Y row h2 hg hr, uS _ _ s X Y row h3 hg hr⟩
def UX (R : Doc × Int) (w : World) (Z : Nat) (c : Code) (pre : List Cel) (W : World) : Prop :=
 c = .ret ∧ (∃ z ∈ pre, z.href ≠ []) ∧ ∃ v, W.heap[w.heap.size + 3]? = some (.cells #[v] 22) ∧ W.heap[w.heap.size + 4]? = some (.cells #[.int .i64 R.2] 30) ∧ DocR true W (fun b => Z ≤ b) v R.1 ∧ Below w.heap.size w W
theorem zNm {R : Doc × Int} {w : World} {Z B : Nat} (hB : w.heap.size ≤ B) (c : Code) : OwnFrom B (UX R w Z c) := fun s X Y row ⟨h0, h1, v, h2, h3, h4, h5⟩ hg hr =>
 ⟨h0, h1, v, xP B _ _ _ s X Y row h2 hg hr, xP B _ _ _ s X Y row h3 hg hr, zAs (β := Unit) B _ _ (fun _ => R.1) () X Y row h4 hg hr, ownFrom_below (zC _) hB s X Y row h5 hg hr⟩
set_option maxRecDepth 200000 in
theorem zHC (Bs : Nat) (v : Value) (s : St) (P Q : Ps) (w : World) (S : Nat → Prop) (h : jD w S v s.lines) (he : EnvT w) (hs : Small s.lines) (hf : Fits s.lines) (hm : isD s.lines s.anc = true) (hBs : w.heap[Bs]? = some (.cells #[v, .int .i64 s.anc.line, .int .i64 s.anc.col, .int .i64 s.foc.line, .int .i64 s.foc.col, .int .i64 s.on, .int .i64 s.off] 26)) :
  Calls zV 160 #[v, posV P, posV Q, .pointer (some ⟨Bs, 0, none⟩)] w (DocSaid (uL s) w) := by
 obtain ⟨W1, hW1⟩ : ∃ W1, ((((w.alloc (.cells #[v] 22)).alloc (.cells #[.int .i64 P.line, .int .i64 P.col] 24)).alloc (.cells #[.int .i64 Q.line, .int .i64 Q.col] 24)).alloc (.cells #[.slice none 0 0] 22)).alloc (.cells #[.int .i64 0] 30) = W1 := ⟨_, rfl⟩;have hB : Below w.heap.size w W1 := hW1 ▸ zAf (zBY (zE _ _) _ _ _) _ _;have hz : w.heap.size + 5 = W1.heap.size := by rw [← hW1]; simp
 have k0 : W1.heap[w.heap.size]? = some (.cells #[v] 22) := hW1 ▸ zZ _ _ (zZ _ _ (zZ _ _ (zZ _ _ (qG _ _ rfl))));have k1 : W1.heap[w.heap.size + 1]? = some (.cells #[.int .i64 P.line, .int .i64 P.col] 24) := hW1 ▸ zZ _ _ (zZ _ _ (zZ _ _ (qG _ _ qF)));have k3 : W1.heap[w.heap.size + 3]? = some (.cells #[.slice none 0 0] 22) := hW1 ▸ zZ _ _ (qG _ _ qF);have k4 : W1.heap[w.heap.size + 4]? = some (.cells #[.int .i64 0] 30) := hW1 ▸ qG _ _ qF;have kS := zY hB hBs;have HB : Hid (∀ W, Below W1.heap.size W1 W → W.heap[Bs]? = some (.cells #[v, .int .i64 s.anc.line, .int .i64 s.anc.col, .int .i64 s.foc.line, .int .i64 s.foc.col, .int .i64 s.on, .int .i64 s.off] 26) ∧ W.heap[w.heap.size]? = some (.cells #[v] 22) ∧ W.heap[w.heap.size + 1]? = some (.cells #[.int .i64 P.line, .int .i64 P.col] 24) ∧ W.heap[w.heap.size + 3]? = some (.cells #[.slice none 0 0] 22) ∧ W.heap[w.heap.size + 4]? = some (.cells #[.int .i64 0] 30)) := zA fun W hW => ⟨zY hW kS, zY hW k0, zY hW k1, zY hW k3, zY hW k4⟩;have hs1 := hB.size;have hBw := (zL.1 hBs).1;have H1 := zA hB;have hw0 : Below W1.heap.size W1 W1 := zE _ _;have HV : Hid (∀ W, Below W1.heap.size W1 W → jD W S v s.lines) := zA fun W hW => h.below (qB _) (hB.trans (hW.mono hs1));have HE : Hid (∀ W, Below W1.heap.size W1 W → EnvT W) := zA fun W hW => (he.below hB).below hW;have HR : Hid (uL s = if (cellsD s.lines (kP s).1 (kP s).2).any (fun c => decide (c.href ≠ [])) = true then vM [] s.lines (kP s).1 (kP s).2 else ([], 7)) := zA rfl;have HVF := zA (zB hs hf);have HVw := zA (zB h he);have HH : Hid (∀ W, Below W1.heap.size W1 W → Calls zV 122 #[stV v s] W fun e w' => e = .returned (.tuple #[.agg #[.int .i64 (kP s).1.line, .int .i64 (kP s).1.col], .agg #[.int .i64 (kP s).2.line, .int .i64 (kP s).2.col]]) ∧ Below W.heap.size W w') := zA fun W hW => zFf v s W S (HV.out W hW) hf hm;obtain ⟨A, B, hAB⟩ : ∃ A B, kP s = (A, B) := ⟨_, _, rfl⟩;rw [hAB] at HH HR;simp only at HH HR;have HLk : Hid (∀ W, Below W1.heap.size W1 W → Calls zV 159 #[v, posV A, posV B, .string ⟨#[]⟩] W (DocSaid (vM [] s.lines A B) W)) := zA fun W hW => zFr v s.lines A B [] W S (HV.out W hW) (HE.out W hW) hs hf qF;have HP : Hid (∀ p : Ps, posV p = .agg #[.int .i64 p.line, .int .i64 p.col]) := zA fun _ => rfl;rw [HP.out, HP.out] at HLk ⊢;have HL : Hid ((cellsD s.lines A B).length ≤ 100000) := zA (Nat.le_trans (zBG _ _ _) hs.1);obtain ⟨X, er, hX⟩ : ∃ X er, vM [] s.lines A B = (X, er) := ⟨_, _, rfl⟩;rw [hX] at HLk HR;obtain ⟨p0, f0⟩ := blk k0;obtain ⟨p1, f1⟩ := blk k3;obtain ⟨p2, f2⟩ := blk k4;obtain ⟨p3, f3⟩ := blk kS;obtain ⟨va, vc, rfl⟩ := h.slice;clear h he hs hf hm hAB hX k0 k1 k3 k4 kS hBs hB;refine (callsIn_wide (n := 6)).1 ?_;refine callsIn_of_wp_marks Tryz.func160 rfl trivial ?_ rfl;simp only [Tryz.ntmps160, List.size_toArray, List.length_cons, List.length_nil, Nat.reduceAdd, Nat.reduceSub, Array.replicate_succ, Array.replicate_zero, List.push_toArray, List.append_toArray, List.nil_append, List.cons_append];have hwf : ∀ f, Fence.wide.fn f := fun _ => trivial
 have hwd : Fence.wide.depth = none := rfl
 gi_wp2_with (first
  | (gi_at_call 122; refine (callsIn_wide.2 (HH.out _ hw0)).mono ?_; rintro e w2 ⟨rfl, hst2⟩; have hb2 := zX hw0 hst2; obtain ⟨q0, g0⟩ := blk (HB.out _ hb2).2.1; have hz2 := hb2.size; have r0 := on2 (HB.out _ hb2).2.1)
  | (gi_at_call 124; refine (callsIn_wide.2 (zDv _ _ _ A B _)).mono ?_; rintro e w5 ⟨rfl, rfl⟩))
 obtain ⟨w6, hw6⟩ : ∃ w6, ((((w2.alloc (.cells #[.int .i64 A.line, .int .i64 A.col] 24)).alloc (.cells #[.int .i64 B.line, .int .i64 B.col] 24)).alloc (.cells #[.slice va s.lines.length vc] 22)).alloc (.cells #[.int .i64 A.line, .int .i64 A.col] 24)).alloc (.cells #[.int .i64 B.line, .int .i64 B.col] 24) = w6 := ⟨_, rfl⟩;rw [hw6];have hb26 : Below w2.heap.size w2 w6 := hw6 ▸ zBY (zAf (zE _ _) _ _) _ _ _;have hz6 : w6.heap.size = w2.heap.size + 5 := by rw [← hw6]; simp
 have m0 : w6.heap[w2.heap.size]? = some (.cells #[.int .i64 A.line, .int .i64 A.col] 24) := hw6 ▸ zZ _ _ (zZ _ _ (zZ _ _ (zZ _ _ (qG _ _ rfl))));have m1 : w6.heap[w2.heap.size + 1]? = some (.cells #[.int .i64 B.line, .int .i64 B.col] 24) := hw6 ▸ zZ _ _ (zZ _ _ (zZ _ _ (qG _ _ qF)));have m2 : w6.heap[w2.heap.size + 1 + 1]? = some (.cells #[.slice va s.lines.length vc] 22) := hw6 ▸ zZ _ _ (zZ _ _ (qG _ _ qF));have m3 : w6.heap[w2.heap.size + 1 + 1 + 1]? = some (.cells #[.int .i64 A.line, .int .i64 A.col] 24) := hw6 ▸ zZ _ _ (qG _ _ qF);have m4 : w6.heap[w2.heap.size + 1 + 1 + 2]? = some (.cells #[.int .i64 B.line, .int .i64 B.col] 24) := hw6 ▸ qG _ _ qF;have hb6 := zX hb2 hb26;have hbw : Below w.heap.size w w6 := H1.out.trans (hb6.mono hs1);have N0 := zA (zB m0 (zB m1 (zB m2 (zB m3 m4))));have hUI : UI w6 [] w6 := ⟨fun _ h => kY, zE _ _, zC _⟩;clear hw6 m0 m1 m2 m3 m4 q0 g0 r0 p0 f0 p1 f1 p2 f2 p3 f3 hW1
 refine zDk rfl qD (gf := 204) (lb := #[.pointer (some ⟨w2.heap.size + 1 + 1, 0, none⟩), .pointer (some ⟨w2.heap.size + 1 + 1 + 1, 0, none⟩), .pointer (some ⟨w2.heap.size + 1 + 1 + 2, 0, none⟩)]) rfl trivial (enters_of Tryz.func204 zT rfl)
  (encs := fun c : Cel => #[celV c]) (n₀ := w.heap.size) (base := w6.heap.size) (Bs := w.heap.size + 1) (S := fun ys => ys = cellsD s.lines A B) (Sp := fun pre => pre <+: cellsD s.lines A B) (N := 200000) (w0 := w6) ?seq qD qD (zE _ _) (fun _ => rfl)
  (UI w6) (UX (X, er) w w2.heap.size) (zNn w6) (zNm qD) hUI (fun _ _ h => h.2.2)
  (fun x => #[.int .i32 x.r, .int .i64 x.bits, .string ⟨x.href.toArray⟩]) 57 ?act ?assign ?body ?done ?stop
 case seq =>
  intro l J Jx W hW hJ _ hY h0;have hzW := hW.size;have hb1 := zX hb6 hW
  exact zDw 5 l (w2.heap.size + 1 + 1) (w2.heap.size + 1 + 1 + 1) (w2.heap.size + 1 + 1 + 2) w6.heap.size (w.heap.size + 1) (.slice va s.lines.length vc) s.lines A B S J Jx w W HVw.out.1 HVw.out.2 HVF.out.1 HVF.out.2 (hbw.trans (hW.mono hbw.size)) hW.size (zY hW N0.out.2.2.1) (zY hW N0.out.2.2.2.1) (zY hW N0.out.2.2.2.2) qD
   (by unfold yG; rw [jT (HB.out W hb1).2.2.1]; rfl) hJ hY h0
 case assign =>
  intro l pre x W K Bx hBx hI hK;unfold celV
  gi_wp2
  rw [← hBx];exact hK
 case body =>
  intro l pre x Bx W hI hBx hbx hlt;obtain ⟨hal, hb, hzW⟩ := hI;have hbW := zX hb6 hb;obtain ⟨sx, sxf⟩ := blk hbx;obtain ⟨s0, s0f⟩ := blk (HB.out _ hbW).2.1;obtain ⟨s1, s1f⟩ := blk (zY hb N0.out.1);obtain ⟨s2, s2f⟩ := blk (zY hb N0.out.2.1);have HA := zA (zB hal (zB hb (zB hzW hbW)));clear hal hb
  by_cases hx : x.href = []
  ·have HX := zA hx
   have hq : x.href.isEmpty = true := by simpa using hx
   clear hx
   gi_wp2_with fail
   exact ⟨KeepsFrom.refl _ _, Kd.of_below (by have := hbw.size; omega) qD (zE _ _), fun c hc => (by rcases List.mem_append.1 hc with h | h; exact HA.out.1 c h; rw [List.mem_singleton.1 h]; exact HX.out), HA.out.2.1, HA.out.2.2.1⟩
  ·have HX := zA hx
   have hq : x.href.isEmpty = false := by simpa using hx
   clear hx
   gi_wp2_with (gi_at_call 159; refine (callsIn_wide.2 (HLk.out _ HA.out.2.2.2)).mono ?_; intro e w7 hsaid; obtain ⟨v7, rfl, hv7, hb7⟩ := hsaid; obtain ⟨a7, c7, rfl⟩ := hv7.slice; have HV7 := zA hv7; clear hv7; have hx7 := zX HA.out.2.2.2 hb7; obtain ⟨t3, t3f⟩ := blk (HB.out _ hx7).2.2.2.1; obtain ⟨t4, t4f⟩ := blk (HB.out _ hx7).2.2.2.2)
   refine ⟨((uB hb7).from _).trans (((KeepsOthers.setCell _ _ _).trans (KeepsOthers.setCell _ _ _)).from _), rfl, ⟨x, by simp, HX.out⟩, .slice a7 X.length c7, ?_, ?_, ?_, ?_⟩
   ·rw [qT, if_neg qF, qT, if_pos rfl, (HB.out _ hx7).2.2.2.1]; rfl
   ·rw [qT, if_pos rfl, qT, if_neg qF, (HB.out _ hx7).2.2.2.2]; rfl
   ·have hv7 := HV7.out
    have hw7 := hb7.size;exact (qH (qB _) hv7 jN (fun b h _ => jL))
   ·exact ((H1.out.trans (hx7.mono hs1)).setCell (by show w.heap.size ≤ w.heap.size + 3; omega) _).setCell (by show w.heap.size ≤ w.heap.size + 4; omega) _
 case done =>
  rintro D ys W hD hys ⟨hal, hb, hzW⟩ hK;subst hys;have hbW := zX hb6 hb;obtain ⟨t3, t3f⟩ := blk (HB.out _ hbW).2.2.2.1;obtain ⟨t4, t4f⟩ := blk (HB.out _ hbW).2.2.2.2
  have HR : Hid (uL s = ([], 7)) := zA (HR.out.trans (if_neg (by
   rw [List.any_eq_true];rintro ⟨c, hc, hc2⟩;exact absurd (hal c hc) (by simpa using hc2))))
  have HB9 := zA hbW;have HK9 := zA hK;clear hal hb hK
  gi_wp2_with fail
  have r1 : ((W.setCell ⟨w.heap.size + 1 + 1 + 1, 0, none⟩ (.slice none 0 0)).setCell ⟨w.heap.size + 1 + 1 + 1 + 1, 0, none⟩ (.int .i64 7)).cell? ⟨w.heap.size + 1 + 1 + 1, 0, none⟩ = some (.slice none 0 0) := (kL qD).trans (yV (t3 0));have r2 : ((W.setCell ⟨w.heap.size + 1 + 1 + 1, 0, none⟩ (.slice none 0 0)).setCell ⟨w.heap.size + 1 + 1 + 1 + 1, 0, none⟩ (.int .i64 7)).cell? ⟨w.heap.size + 1 + 1 + 1 + 1, 0, none⟩ = some (.int .i64 7) := yV ((kL qD).trans (t4 0));have hK2 : ((W.setCell ⟨w.heap.size + 1 + 1 + 1, 0, none⟩ (.slice none 0 0)).setCell ⟨w.heap.size + 1 + 1 + 1 + 1, 0, none⟩ (.int .i64 7)).heap[D]? = some (.deferred (some [])) := by rw [qT, if_neg (by show ¬ w.heap.size + 1 + 1 + 1 + 1 = D; omega), qT, if_neg (by show ¬ w.heap.size + 1 + 1 + 1 = D; omega)]; exact HK9.out
  have hbE : Below w.heap.size w ((W.setCell ⟨w.heap.size + 1 + 1 + 1, 0, none⟩ (.slice none 0 0)).setCell ⟨w.heap.size + 1 + 1 + 1 + 1, 0, none⟩ (.int .i64 7)) := ((H1.out.trans (HB9.out.mono hs1)).setCell zEu _).setCell zCU _;refine ⟨by simp, .inl ⟨_, _, rfl, run_takeDeferred hK2, ?_⟩⟩;refine ⟨_, zEM rfl _ _ ⟨w.heap.size + 1 + 1 + 1, 0, none⟩ ⟨w.heap.size + 1 + 1 + 1 + 1, 0, none⟩ (.slice none 0 0) 7 ⟨_, _, _, rfl⟩ rfl rfl ((World.cell?_of_block (World.putObj_heap_other jB)).trans r1) ((World.cell?_of_block (World.putObj_heap_other jB)).trans r2), ?_⟩;unfold DocSaid;rw [HR.out];exact ⟨_, rfl, SliceR.nil _ _ _ _ _ _, hbE.trans (belowK_b (w := w) (zC _) _ D _ _ qD hK2 rfl rfl)⟩
 case stop =>
  rintro D c pre W hD hpre ⟨rfl, ⟨z, hz1, hz2⟩, v9, h3, h4, h5, h6⟩ hK
  have HR : Hid (uL s = (X, er)) := zA (HR.out.trans (if_pos (by
   rw [List.any_eq_true];exact ⟨z, hpre.subset hz1, by simpa using hz2⟩)))
  obtain ⟨t3, t3f⟩ := blk h3;obtain ⟨t4, t4f⟩ := blk h4;obtain ⟨a9, c9, rfl⟩ := h5.slice;have HV9 := zA h5;have HB9 := zA h6;have HK9 := zA hK;clear h3 h4 h5 h6 hK hpre hz1 hz2
  gi_wp2_with fail
  refine ⟨by simp, .inl ⟨_, _, rfl, run_takeDeferred HK9.out, ?_⟩⟩;refine ⟨_, zEM rfl _ _ ⟨w.heap.size + 1 + 1 + 1, 0, none⟩ ⟨w.heap.size + 1 + 1 + 1 + 1, 0, none⟩ (.slice a9 X.length c9) er ⟨_, _, _, rfl⟩ rfl rfl ((World.cell?_of_block (World.putObj_heap_other jB)).trans (t3 0)) ((World.cell?_of_block (World.putObj_heap_other jB)).trans (t4 0)), ?_⟩;unfold DocSaid;rw [HR.out];exact ⟨_, rfl, qH (qB true) ((zAs (β := Unit) D _ _ (fun _ => X)).putObj (s := ()) _ HV9.out (zC _) HK9.out rfl) (qN _ _) (fun b h _ => Nat.le_trans qD h), HB9.out.trans (belowK_b (w := w) (zC _) W D _ _ qD HK9.out rfl rfl)⟩
set_option maxRecDepth 100000 in
theorem zHS (v : Value) (s : St) (w : World) (S : Nat → Prop) (h : jD w S v s.lines) (he : EnvT w) (hs : Small s.lines) (hf : Fits s.lines) :
  Calls zV 80 #[stV v s] w (StSaid (xI s (uL s)) w) := by
 obtain ⟨W1, hW1, hB, hz, k0, k2⟩ := xU w v s;have HB : Hid (∀ W, Below W1.heap.size W1 W → W.heap[w.heap.size]? = some (.cells #[v, .int .i64 s.anc.line, .int .i64 s.anc.col, .int .i64 s.foc.line, .int .i64 s.foc.col, .int .i64 s.on, .int .i64 s.off] 26) ∧ W.heap[w.heap.size + 1]? = some (.cells #[.slice none 0 0, .int .i64 0, .int .i64 0, .int .i64 0, .int .i64 0, .int .i64 0, .int .i64 0] 26)) := zA fun W hW => ⟨zY hW k0, zY hW k2⟩;have hs1 := hB.size;have H1 := zA hB
 have HC := zA (zCj v s 160 #[.pointer (some ⟨w.heap.size, 0, none⟩)] (uL s) W1 S (h.below (qB _) hB) (he.below hB) hs (enters_of Tryz.func160 zT rfl)
  (fun hm W hW => zHC w.heap.size v s (qV s).1 (qV s).2 W S (h.below (qB _) (hB.trans (hW.mono hs1))) ((he.below hB).below hW) hs hf (yK hm).2.1 (zY hW k0)))
 obtain ⟨X, hX⟩ : ∃ X, xI s (uL s) = X := ⟨_, rfl⟩;rw [hX] at HC ⊢;obtain ⟨p0, f0⟩ := blk k0;obtain ⟨p2, f2⟩ := blk k2;obtain ⟨va, vc, rfl⟩ := h.slice;clear h he hs hf hX k0 k2 hB;go_enter Tryz.func80, Tryz.ntmps80;go_wp2_with (go_at_call 156; refine HC.out.mono ?_; intro e w2 hsaid; obtain ⟨v2, rfl, hv2, hb2⟩ := hsaid; obtain ⟨a2, c2, rfl⟩ := hv2.slice; have HV2 := zA hv2; clear hv2; obtain ⟨q2, g2⟩ := blk (HB.out _ hb2).2);refine zM (jS rfl _ _ (w.heap.size + 1) (.slice a2 X.1.lines.length c2) (.int .i64 X.1.anc.line) (.int .i64 X.1.anc.col) (.int .i64 X.1.foc.line) (.int .i64 X.1.foc.col) (.int .i64 X.1.on) (.int .i64 X.1.off) (.int .i64 X.2) rfl rfl vO) rfl ?_;have hfin := H1.out.trans (hb2.mono hs1);have hv2 := HV2.out;exact ⟨_, rfl, (qH (qB _) hv2 jN (fun b h _ => jL)), by ((with_reducible repeat' first | exact zE _ _ | assumption | refine zG ?_ ?_ _ | refine zH ?_ | refine qR ?_ | refine zF ?_ ?_ _) <;> go_size)⟩
set_option maxRecDepth 100000 in
theorem vE (v : Value) (s : St) (a : ByteArray) (B g : Nat) (caps : Array Value) (X : St × Int) (w : World) (S : Nat → Prop) (h : jD w S v s.lines) (hB0 : w.heap[B]? = some (.cells #[.func (.func g) #[] caps] 67)) (eg : ∀ args w, (callFunc g args).run zV w = .ok (.enter g args) w)
  (hc : ∀ W, Below w.heap.size w W → Calls zV g (#[stV v s] ++ caps) W (StSaid X W)) :
  Calls zV 145 #[stV v s, .string a, .pointer (some ⟨B, 0, none⟩)] w (StSaid X w) := by
 obtain ⟨W1, hW1, hB, hz, k0, k2⟩ := xU w v s;have HB : Hid (∀ W, Below W1.heap.size W1 W → W.heap[w.heap.size]? = some (.cells #[v, .int .i64 s.anc.line, .int .i64 s.anc.col, .int .i64 s.foc.line, .int .i64 s.foc.col, .int .i64 s.on, .int .i64 s.off] 26) ∧ W.heap[w.heap.size + 1]? = some (.cells #[.slice none 0 0, .int .i64 0, .int .i64 0, .int .i64 0, .int .i64 0, .int .i64 0, .int .i64 0] 26)) := zA fun W hW => ⟨zY hW k0, zY hW k2⟩;have hs1 := hB.size;have H1 := zA hB;have HC := zA (hc W1 hB);obtain ⟨pb, fb⟩ := blk (zY hB hB0);obtain ⟨p0, f0⟩ := blk k0;obtain ⟨p1, f1⟩ := blk k2;obtain ⟨va, vc, rfl⟩ := h.slice;clear h hB k0 k2 hc hB0;go_enter Tryz.func145, Tryz.ntmps145;go_wp2_with (go_at_fn g; refine HC.out.mono ?_; rintro e w2 ⟨v2, rfl, hv2, hb2⟩; obtain ⟨a2, c2, rfl⟩ := hv2.slice; obtain ⟨q0, g0⟩ := blk (HB.out _ hb2).1; obtain ⟨q1, g1⟩ := blk (HB.out _ hb2).2; have HV := zA hv2; clear hv2);refine zM (jS rfl _ _ (w.heap.size + 1) (.slice a2 X.1.lines.length c2) (.int .i64 X.1.anc.line) (.int .i64 X.1.anc.col) (.int .i64 X.1.foc.line) (.int .i64 X.1.foc.col) (.int .i64 X.1.on) (.int .i64 X.1.off) (.int .i64 X.2) rfl rfl vO) rfl ?_;have hfin := H1.out.trans (hb2.mono hs1);have hv2 := HV.out;exact ⟨_, rfl, (qH (qB _) hv2 jN (fun b h _ => jL)), by ((with_reducible repeat' first | exact zE _ _ | assumption | refine zG ?_ ?_ _ | refine zH ?_ | refine qR ?_ | refine zF ?_ ?_ _) <;> go_size)⟩
set_option maxRecDepth 100000 in
theorem zCq (v : Value) (s : St) (b : Int) (B : Nat) (w : World) (S : Nat → Prop) (h : jD w S v s.lines) (he : EnvT w) (hs : Small s.lines) (hf : Fits s.lines) (hB0 : w.heap[B]? = some (.cells #[.int .i64 b] 3)) :
  Calls zV 154 #[stV v s, .pointer (some ⟨B, 0, none⟩)] w (StSaid (vS s b) w) := by
 obtain ⟨W1, hW1, hB, hz, k0, k2⟩ := xU w v s;have HB : Hid (∀ W, Below W1.heap.size W1 W → W.heap[w.heap.size]? = some (.cells #[v, .int .i64 s.anc.line, .int .i64 s.anc.col, .int .i64 s.foc.line, .int .i64 s.foc.col, .int .i64 s.on, .int .i64 s.off] 26) ∧ W.heap[w.heap.size + 1]? = some (.cells #[.slice none 0 0, .int .i64 0, .int .i64 0, .int .i64 0, .int .i64 0, .int .i64 0, .int .i64 0] 26)) := zA fun W hW => ⟨zY hW k0, zY hW k2⟩;have hs1 := hB.size;have H1 := zA hB;have HC := zA (zHT v s b W1 S (h.below (qB _) hB) (he.below hB) hs hf);obtain ⟨X, hX⟩ : ∃ X, vS s b = X := ⟨_, rfl⟩;rw [hX] at HC ⊢;obtain ⟨pb, fb⟩ := blk (zY hB hB0);obtain ⟨p0, f0⟩ := blk k0;obtain ⟨p1, f1⟩ := blk k2;obtain ⟨va, vc, rfl⟩ := h.slice;clear h he hs hf hB k0 k2 hB0 hX;go_enter Tryz.func154, Tryz.ntmps154;go_wp2_with (go_at_call 155; refine HC.out.mono ?_; rintro e w2 ⟨v2, rfl, hv2, hb2⟩; obtain ⟨a2, c2, rfl⟩ := hv2.slice; obtain ⟨q0, g0⟩ := blk (HB.out _ hb2).1; obtain ⟨q1, g1⟩ := blk (HB.out _ hb2).2; have HV := zA hv2; clear hv2);refine zM (jS rfl _ _ (w.heap.size + 1) (.slice a2 X.1.lines.length c2) (.int .i64 X.1.anc.line) (.int .i64 X.1.anc.col) (.int .i64 X.1.foc.line) (.int .i64 X.1.foc.col) (.int .i64 X.1.on) (.int .i64 X.1.off) (.int .i64 X.2) rfl rfl vO) rfl ?_;have hfin := H1.out.trans (hb2.mono hs1);have hv2 := HV.out;exact ⟨_, rfl, (qH (qB _) hv2 jN (fun b h _ => jL)), by ((with_reducible repeat' first | exact zE _ _ | assumption | refine zG ?_ ?_ _ | refine zH ?_ | refine qR ?_ | refine zF ?_ ?_ _) <;> go_size)⟩
set_option maxRecDepth 100000 in
theorem zFG (v : Value) (s : St) (b : Int) (B : Nat) (w : World) (S : Nat → Prop) (h : jD w S v s.lines) (he : EnvT w) (hs : Small s.lines) (hf : Fits s.lines) (hB0 : w.heap[B]? = some (.cells #[.int .i64 b] 3)) :
  Calls zV 168 #[stV v s, .pointer (some ⟨B, 0, none⟩)] w (StSaid (uI b s) w) := by
 obtain ⟨W1, hW1, hB, hz, k0, k2⟩ := xU w v s;have HB : Hid (∀ W, Below W1.heap.size W1 W → W.heap[w.heap.size]? = some (.cells #[v, .int .i64 s.anc.line, .int .i64 s.anc.col, .int .i64 s.foc.line, .int .i64 s.foc.col, .int .i64 s.on, .int .i64 s.off] 26) ∧ W.heap[w.heap.size + 1]? = some (.cells #[.slice none 0 0, .int .i64 0, .int .i64 0, .int .i64 0, .int .i64 0, .int .i64 0, .int .i64 0] 26)) := zA fun W hW => ⟨zY hW k0, zY hW k2⟩;have hs1 := hB.size;have H1 := zA hB;have HC := zA (zJJ v s b W1 S (h.below (qB _) hB) (he.below hB) hs hf);obtain ⟨X, hX⟩ : ∃ X, uI b s = X := ⟨_, rfl⟩;rw [hX] at HC ⊢;obtain ⟨pb, fb⟩ := blk (zY hB hB0);obtain ⟨p0, f0⟩ := blk k0;obtain ⟨p1, f1⟩ := blk k2;obtain ⟨va, vc, rfl⟩ := h.slice;clear h he hs hf hB k0 k2 hB0 hX;go_enter Tryz.func168, Tryz.ntmps168;go_wp2_with (go_at_call 169; refine HC.out.mono ?_; rintro e w2 ⟨v2, rfl, hv2, hb2⟩; obtain ⟨a2, c2, rfl⟩ := hv2.slice; obtain ⟨q0, g0⟩ := blk (HB.out _ hb2).1; obtain ⟨q1, g1⟩ := blk (HB.out _ hb2).2; have HV := zA hv2; clear hv2);refine zM (jS rfl _ _ (w.heap.size + 1) (.slice a2 X.1.lines.length c2) (.int .i64 X.1.anc.line) (.int .i64 X.1.anc.col) (.int .i64 X.1.foc.line) (.int .i64 X.1.foc.col) (.int .i64 X.1.on) (.int .i64 X.1.off) (.int .i64 X.2) rfl rfl vO) rfl ?_;have hfin := H1.out.trans (hb2.mono hs1);have hv2 := HV.out;exact ⟨_, rfl, (qH (qB _) hv2 jN (fun b h _ => jL)), by ((with_reducible repeat' first | exact zE _ _ | assumption | refine zG ?_ ?_ _ | refine zH ?_ | refine qR ?_ | refine zF ?_ ?_ _) <;> go_size)⟩
set_option maxRecDepth 100000 in
theorem zJW (v : Value) (s : St) (w : World) (S : Nat → Prop) (h : jD w S v s.lines) (he : EnvT w) (hs : Small s.lines) (hf : Fits s.lines) :
  Calls zV 74 #[stV v s] w (StSaid (keyS s (vT s ⟨#[10]⟩)) w) := by
 obtain ⟨W1, hW1, hB, hz, k0, k2⟩ := xU w v s;have HB : Hid (∀ W, Below W1.heap.size W1 W → W.heap[w.heap.size]? = some (.cells #[v, .int .i64 s.anc.line, .int .i64 s.anc.col, .int .i64 s.foc.line, .int .i64 s.foc.col, .int .i64 s.on, .int .i64 s.off] 26) ∧ W.heap[w.heap.size + 1]? = some (.cells #[.slice none 0 0, .int .i64 0, .int .i64 0, .int .i64 0, .int .i64 0, .int .i64 0, .int .i64 0] 26)) := zA fun W hW => ⟨zY hW k0, zY hW k2⟩;have hs1 := hB.size;have H1 := zA hB;have HC := zA (zFe v s ⟨#[10]⟩ W1 S (h.below (qB _) hB) (he.below hB) hs hf qW);obtain ⟨X, hX⟩ : ∃ X, keyS s (vT s ⟨#[10]⟩) = X := ⟨_, rfl⟩;rw [hX] at HC ⊢;obtain ⟨p0, f0⟩ := blk k0;obtain ⟨p1, f1⟩ := blk k2;obtain ⟨va, vc, rfl⟩ := h.slice;clear h he hs hf hB k0 k2 hX;go_enter Tryz.func74, Tryz.ntmps74;go_wp2_with (go_at_call 72; refine HC.out.mono ?_; rintro e w2 ⟨v2, rfl, hv2, hb2⟩; obtain ⟨a2, c2, rfl⟩ := hv2.slice; obtain ⟨q0, g0⟩ := blk (HB.out _ hb2).1; obtain ⟨q1, g1⟩ := blk (HB.out _ hb2).2; have HV := zA hv2; clear hv2);refine zM (jS rfl _ _ (w.heap.size + 1) (.slice a2 X.1.lines.length c2) (.int .i64 X.1.anc.line) (.int .i64 X.1.anc.col) (.int .i64 X.1.foc.line) (.int .i64 X.1.foc.col) (.int .i64 X.1.on) (.int .i64 X.1.off) (.int .i64 X.2) rfl rfl vO) rfl ?_;have hfin := H1.out.trans (hb2.mono hs1);have hv2 := HV.out;exact ⟨_, rfl, (qH (qB _) hv2 jN (fun b h _ => jL)), by ((with_reducible repeat' first | exact zE _ _ | assumption | refine zG ?_ ?_ _ | refine zH ?_ | refine qR ?_ | refine zF ?_ ?_ _) <;> go_size)⟩
theorem zCK (s : St) (a : List UInt8) : uZ s a = if ((tagF (kD a)).getD 0 ≠ 2 ∧ (if 3 ≤ (tagF (kD a)).getD 0 ∧ (tagF (kD a)).getD 0 ≤ 5 then (tagF (kD a)).getD 0 - 2 else 0) = 0) then (noS, 1) else yL (if 3 ≤ (tagF (kD a)).getD 0 ∧ (tagF (kD a)).getD 0 ≤ 5 then (tagF (kD a)).getD 0 - 2 else 0) s := by
 unfold uZ;rw [zMs];cases h : tagF (kD a) with
 | none => rfl
 | some t =>
  simp only [Option.getD_some]
  by_cases h1 : 2 ≤ t ∧ t ≤ 5
  ·rw [if_pos h1]
   by_cases h2 : t = 2
   ·subst h2
    rfl
   ·rw [if_pos (show 3 ≤ t ∧ t ≤ 5 by omega), if_neg qD]
  ·rw [if_neg h1, if_neg (show ¬ (3 ≤ t ∧ t ≤ 5) by omega), if_pos ⟨by omega, rfl⟩]
theorem zLN (ar : ByteArray) (h : 1 < ar.size) : (ar.extract 1 (ar.size - 1)).data.toList = (ar.data.toList.drop 1).dropLast := by
 have e : (ar.extract 1 (ar.size - 1)).data.toList = (ar.data.toList.drop 1).take (ar.size - 1 - 1) := by
  rw [ByteArray.data_extract, Array.toList_extract]
 rw [e, List.dropLast_eq_take, List.length_drop, Array.length_toList]
 rfl
theorem zCN {o : Option UInt8} {b c : UInt8} (h : o = some b) : (o = some c) ↔ ((b.toNat : Int) == (c.toNat : Int)) = true := by
 subst h;constructor
 ·intro e
  cases e
  simp
 ·intro e
  have : (b.toNat : Int) = (c.toNat : Int) := by simpa using e
  have : b.toNat = c.toNat := by omega
  rw [UInt8.toNat_inj.1 this]
set_option maxRecDepth 100000 in
theorem zJx (v : Value) (s : St) (ar : ByteArray) (w : World) (S : Nat → Prop) (h : jD w S v s.lines) (he : EnvT w) (hs : Small s.lines) (hf : Fits s.lines) (ha : ar.size ≤ 1000000) (hn : ar.size ≤ 1) :
  Calls zV 82 #[stV v s, .string ar] w (StSaid (uZ s ar.data.toList) w) := by
 obtain ⟨W1, hW1, hB, hz, k0, k2⟩ := xU w v s;have HB : Hid (∀ W, Below W1.heap.size W1 W → W.heap[w.heap.size]? = some (.cells #[v, .int .i64 s.anc.line, .int .i64 s.anc.col, .int .i64 s.foc.line, .int .i64 s.foc.col, .int .i64 s.on, .int .i64 s.off] 26) ∧ W.heap[w.heap.size + 1]? = some (.cells #[.slice none 0 0, .int .i64 0, .int .i64 0, .int .i64 0, .int .i64 0, .int .i64 0, .int .i64 0] 26)) := zA fun W hW => ⟨zY hW k0, zY hW k2⟩;have hs1 := hB.size;have H1 := zA hB;have hw0 : Below W1.heap.size W1 W1 := zE _ _
 have HTF : Hid (∀ W, Below W1.heap.size W1 W → Calls zV 163 #[.string (ar)] W fun e w' => e = .returned (.tuple #[.int .i64 ((tagF (kD ar.data.toList)).getD 0), .bool (tagF (kD ar.data.toList)).isSome]) ∧ Below W.heap.size W w') := zA fun W hW => by
  have := zCr (ar) W ((he.below hB).below hW) (ha);rw [show kD ar.data.toList = ar.data.toList from (if_neg (fun h => by have h2 : ar.data.toList.length = ar.size := Array.length_toList; omega))];exact this
 have HFB : Hid (∀ k W, Below W1.heap.size W1 W → Calls zV 165 #[stV v s, .int .i64 k] W (StSaid (yL k s) W)) := zA fun k W hW => zCm v s k W S ((h.below (qB _) hB).below (qB _) hW) ((he.below hB).below hW) hs hf;have HR := zA (zCK s ar.data.toList);obtain ⟨tf, htf⟩ : ∃ t, (tagF (kD ar.data.toList)).getD 0 = t := ⟨_, rfl⟩;obtain ⟨tb, htb⟩ : ∃ t, (tagF (kD ar.data.toList)).isSome = t := ⟨_, rfl⟩;rw [htf] at HTF HR;rw [htb] at HTF;obtain ⟨p0, f0⟩ := blk k0;obtain ⟨p1, f1⟩ := blk k2;obtain ⟨va, vc, rfl⟩ := h.slice;have hsz : 0 ≤ (ar.size : Int) := zR _;have i1 : ¬ (1 : Int) < (ar.size : Int) := by omega
 have i2 : ¬ 1 < ar.size := by omega
 clear h he hs hf hB k0 k2 htf htb;have HH : Hid (∀ W, Calls zV 164 #[.int .i64 tf] W fun e w' => e = .returned (.int .i64 (if 3 ≤ tf ∧ tf ≤ 5 then tf - 2 else 0)) ∧ Below W.heap.size W w') := zA fun W => zCi tf W;obtain ⟨hd, hhd⟩ : ∃ x : Int, (if 3 ≤ tf ∧ tf ≤ 5 then tf - 2 else 0) = x := ⟨_, rfl⟩;rw [hhd] at HH HR;clear hhd;obtain ⟨X, hX⟩ : ∃ X, yL hd s = X := ⟨_, rfl⟩;have HFB : Hid (∀ W, Below W1.heap.size W1 W → Calls zV 165 #[stV (.slice va s.lines.length vc) s, .int .i64 hd] W (StSaid X W)) := zA fun W hW => hX ▸ HFB.out hd W hW;rw [hX] at HR;clear hX;rcases (show tf = 2 ∨ (tf ≠ 2 ∧ hd = 0) ∨ (tf ≠ 2 ∧ hd ≠ 0) by omega) with q | ⟨q, q2⟩ | ⟨q, q2⟩
 ·have HR := zA (HR.out.trans (if_neg (fun h => h.1 q)))
  have d2 : (tf != 2) = false := by simp [q]
  have HQ := zA q;clear q;go_enter Tryz.func82, Tryz.ntmps82
  go_wp2_with (first
    | (go_at_call 163; refine (HTF.out _ hw0).mono ?_; rintro e w2 ⟨rfl, hb2⟩; obtain ⟨q0, g0⟩ := blk (HB.out _ hb2).1; obtain ⟨q1, g1⟩ := blk (HB.out _ hb2).2)
    | (go_at_call 164; refine (HH.out _).mono ?_; rintro e w3 ⟨rfl, hst3⟩; have hb3 := zX hb2 hst3; clear q0 g0 q1 g1; obtain ⟨q0, g0⟩ := blk (HB.out _ hb3).1; obtain ⟨q1, g1⟩ := blk (HB.out _ hb3).2))
  have hdr : Below W1.heap.size W1 w2.drew := hb2.drew
  go_region_held3 (fun w' => w'.cell? ⟨w.heap.size, 0, none⟩ = some (.slice va s.lines.length vc) ∧ w'.cell? ⟨w.heap.size, 1, none⟩ = some (.int .i64 s.anc.line) ∧ w'.cell? ⟨w.heap.size, 2, none⟩ = some (.int .i64 s.anc.col) ∧ w'.cell? ⟨w.heap.size, 3, none⟩ = some (.int .i64 s.foc.line) ∧ w'.cell? ⟨w.heap.size, 4, none⟩ = some (.int .i64 s.foc.col) ∧ w'.cell? ⟨w.heap.size, 5, none⟩ = some (.int .i64 s.on) ∧ w'.cell? ⟨w.heap.size, 6, none⟩ = some (.int .i64 s.off)) (go_keep)
   (first
    | (go_at_call 164; refine (HH.out _).mono ?_; rintro e w5 ⟨rfl, hst5⟩; have hb5 := zX hdr hst5; obtain ⟨t0, u0⟩ := blk (HB.out _ hb5).1; obtain ⟨t1, u1⟩ := blk (HB.out _ hb5).2)
    | (go_at_call 165; refine (HFB.out _ hb5).mono ?_; rintro e w6 ⟨v6, rfl, hv6, hst6⟩; have hb6 := zX hb5 hst6; obtain ⟨a6, c6, rfl⟩ := hv6.slice; obtain ⟨t2, u2⟩ := blk (HB.out _ hb6).1; obtain ⟨t3, u3⟩ := blk (HB.out _ hb6).2; have HV := zA hv6; clear hv6))
  go_wp2_with fail;refine zM (jS rfl _ _ (w.heap.size + 1) (.slice a6 X.1.lines.length c6) (.int .i64 X.1.anc.line) (.int .i64 X.1.anc.col) (.int .i64 X.1.foc.line) (.int .i64 X.1.foc.col) (.int .i64 X.1.on) (.int .i64 X.1.off) (.int .i64 X.2) rfl rfl uR) rfl ?_;rw [HR.out];have hfin := H1.out.trans (hb6.mono hs1);have hs5 := hb5.size;have hv6 := HV.out;exact ⟨_, rfl, (qH (qB _) hv6 jN (fun b h _ => jL)), by ((with_reducible repeat' first | exact zE _ _ | assumption | refine zG ?_ ?_ _ | refine zH ?_ | refine qR ?_ | refine zF ?_ ?_ _) <;> go_size)⟩
 ·have HR := zA (HR.out.trans (if_pos ⟨q, q2⟩))
  have d2 : (tf != 2) = true := by simp [q]
  have d3 : (hd == 0) = true := by simp [q2]
  go_enter Tryz.func82, Tryz.ntmps82
  go_wp2_with (first
    | (go_at_call 163; refine (HTF.out _ hw0).mono ?_; rintro e w2 ⟨rfl, hb2⟩; obtain ⟨q0, g0⟩ := blk (HB.out _ hb2).1; obtain ⟨q1, g1⟩ := blk (HB.out _ hb2).2)
    | (go_at_call 164; refine (HH.out _).mono ?_; rintro e w3 ⟨rfl, hst3⟩; have hb3 := zX hb2 hst3; clear q0 g0 q1 g1; obtain ⟨q0, g0⟩ := blk (HB.out _ hb3).1; obtain ⟨q1, g1⟩ := blk (HB.out _ hb3).2))
  refine zM (jS rfl _ _ (w.heap.size + 1) (.slice none 0 0) (.int .i64 0) (.int .i64 0) (.int .i64 0) (.int .i64 0) (.int .i64 0) (.int .i64 0) (.int .i64 1) rfl rfl zCZ) rfl ?_;unfold StSaid;rw [HR.out];have hfin := H1.out.trans (hb3.mono hs1);exact ⟨_, rfl, SliceR.nil _ _ _ _ _ _, by ((with_reducible repeat' first | exact zE _ _ | assumption | refine zG ?_ ?_ _ | refine zH ?_ | refine qR ?_ | refine zF ?_ ?_ _) <;> go_size)⟩
 ·have HR := zA (HR.out.trans (if_neg (fun h => q2 h.2)))
  have d2 : (tf != 2) = true := by simp [q]
  have d3 : (hd == 0) = false := by simp [q2]
  clear q q2;go_enter Tryz.func82, Tryz.ntmps82
  go_wp2_with (first
    | (go_at_call 163; refine (HTF.out _ hw0).mono ?_; rintro e w2 ⟨rfl, hb2⟩; obtain ⟨q0, g0⟩ := blk (HB.out _ hb2).1; obtain ⟨q1, g1⟩ := blk (HB.out _ hb2).2)
    | (go_at_call 164; refine (HH.out _).mono ?_; rintro e w3 ⟨rfl, hst3⟩; have hb3 := zX hb2 hst3; clear q0 g0 q1 g1; obtain ⟨q0, g0⟩ := blk (HB.out _ hb3).1; obtain ⟨q1, g1⟩ := blk (HB.out _ hb3).2))
  have hdr : Below W1.heap.size W1 w3.drew := hb3.drew
  go_region_held3 (fun w' => w'.cell? ⟨w.heap.size, 0, none⟩ = some (.slice va s.lines.length vc) ∧ w'.cell? ⟨w.heap.size, 1, none⟩ = some (.int .i64 s.anc.line) ∧ w'.cell? ⟨w.heap.size, 2, none⟩ = some (.int .i64 s.anc.col) ∧ w'.cell? ⟨w.heap.size, 3, none⟩ = some (.int .i64 s.foc.line) ∧ w'.cell? ⟨w.heap.size, 4, none⟩ = some (.int .i64 s.foc.col) ∧ w'.cell? ⟨w.heap.size, 5, none⟩ = some (.int .i64 s.on) ∧ w'.cell? ⟨w.heap.size, 6, none⟩ = some (.int .i64 s.off)) (go_keep)
   (first
    | (go_at_call 164; refine (HH.out _).mono ?_; rintro e w5 ⟨rfl, hst5⟩; have hb5 := zX hdr hst5; obtain ⟨t0, u0⟩ := blk (HB.out _ hb5).1; obtain ⟨t1, u1⟩ := blk (HB.out _ hb5).2)
    | (go_at_call 165; refine (HFB.out _ hb5).mono ?_; rintro e w6 ⟨v6, rfl, hv6, hst6⟩; have hb6 := zX hb5 hst6; obtain ⟨a6, c6, rfl⟩ := hv6.slice; obtain ⟨t2, u2⟩ := blk (HB.out _ hb6).1; obtain ⟨t3, u3⟩ := blk (HB.out _ hb6).2; have HV := zA hv6; clear hv6))
  go_wp2_with fail;refine zM (jS rfl _ _ (w.heap.size + 1) (.slice a6 X.1.lines.length c6) (.int .i64 X.1.anc.line) (.int .i64 X.1.anc.col) (.int .i64 X.1.foc.line) (.int .i64 X.1.foc.col) (.int .i64 X.1.on) (.int .i64 X.1.off) (.int .i64 X.2) rfl rfl uR) rfl ?_;rw [HR.out];have hfin := H1.out.trans (hb6.mono hs1);have hs5 := hb5.size;have hv6 := HV.out;exact ⟨_, rfl, (qH (qB _) hv6 jN (fun b h _ => jL)), by ((with_reducible repeat' first | exact zE _ _ | assumption | refine zG ?_ ?_ _ | refine zH ?_ | refine qR ?_ | refine zF ?_ ?_ _) <;> go_size)⟩
set_option maxRecDepth 100000 in
theorem zJw (v : Value) (s : St) (ar : ByteArray) (w : World) (S : Nat → Prop) (h : jD w S v s.lines) (he : EnvT w) (hs : Small s.lines) (hf : Fits s.lines) (ha : ar.size ≤ 1000000) (hn : 1 < ar.size) (hc : ((ar[0].toNat : Int) == 60) = false) :
  Calls zV 82 #[stV v s, .string ar] w (StSaid (uZ s ar.data.toList) w) := by
 obtain ⟨W1, hW1, hB, hz, k0, k2⟩ := xU w v s;have HB : Hid (∀ W, Below W1.heap.size W1 W → W.heap[w.heap.size]? = some (.cells #[v, .int .i64 s.anc.line, .int .i64 s.anc.col, .int .i64 s.foc.line, .int .i64 s.foc.col, .int .i64 s.on, .int .i64 s.off] 26) ∧ W.heap[w.heap.size + 1]? = some (.cells #[.slice none 0 0, .int .i64 0, .int .i64 0, .int .i64 0, .int .i64 0, .int .i64 0, .int .i64 0] 26)) := zA fun W hW => ⟨zY hW k0, zY hW k2⟩;have hs1 := hB.size;have H1 := zA hB;have hw0 : Below W1.heap.size W1 W1 := zE _ _
 have HTF : Hid (∀ W, Below W1.heap.size W1 W → Calls zV 163 #[.string (ar)] W fun e w' => e = .returned (.tuple #[.int .i64 ((tagF (kD ar.data.toList)).getD 0), .bool (tagF (kD ar.data.toList)).isSome]) ∧ Below W.heap.size W w') := zA fun W hW => by
  have := zCr (ar) W ((he.below hB).below hW) (ha);rw [show kD ar.data.toList = ar.data.toList from (if_neg (fun h => by have := (zCN (c := 60) (zDT ar qD)).1 h.2.1; rw [show (((60 : UInt8).toNat : Nat) : Int) = 60 from rfl, hc] at this; cases this))];exact this
 have HFB : Hid (∀ k W, Below W1.heap.size W1 W → Calls zV 165 #[stV v s, .int .i64 k] W (StSaid (yL k s) W)) := zA fun k W hW => zCm v s k W S ((h.below (qB _) hB).below (qB _) hW) ((he.below hB).below hW) hs hf;have HR := zA (zCK s ar.data.toList);obtain ⟨tf, htf⟩ : ∃ t, (tagF (kD ar.data.toList)).getD 0 = t := ⟨_, rfl⟩;obtain ⟨tb, htb⟩ : ∃ t, (tagF (kD ar.data.toList)).isSome = t := ⟨_, rfl⟩;rw [htf] at HTF HR;rw [htb] at HTF;obtain ⟨p0, f0⟩ := blk k0;obtain ⟨p1, f1⟩ := blk k2;obtain ⟨va, vc, rfl⟩ := h.slice;have hsz : 0 ≤ (ar.size : Int) := zR _;have i1 : (1 : Int) < (ar.size : Int) := by omega
 have i0 : (0 : Int) < (ar.size : Int) := by omega
 clear h he hs hf hB k0 k2 htf htb;have HH : Hid (∀ W, Calls zV 164 #[.int .i64 tf] W fun e w' => e = .returned (.int .i64 (if 3 ≤ tf ∧ tf ≤ 5 then tf - 2 else 0)) ∧ Below W.heap.size W w') := zA fun W => zCi tf W;obtain ⟨hd, hhd⟩ : ∃ x : Int, (if 3 ≤ tf ∧ tf ≤ 5 then tf - 2 else 0) = x := ⟨_, rfl⟩;rw [hhd] at HH HR;clear hhd;obtain ⟨X, hX⟩ : ∃ X, yL hd s = X := ⟨_, rfl⟩;have HFB : Hid (∀ W, Below W1.heap.size W1 W → Calls zV 165 #[stV (.slice va s.lines.length vc) s, .int .i64 hd] W (StSaid X W)) := zA fun W hW => hX ▸ HFB.out hd W hW;rw [hX] at HR;clear hX;rcases (show tf = 2 ∨ (tf ≠ 2 ∧ hd = 0) ∨ (tf ≠ 2 ∧ hd ≠ 0) by omega) with q | ⟨q, q2⟩ | ⟨q, q2⟩
 ·have HR := zA (HR.out.trans (if_neg (fun h => h.1 q)))
  have d2 : (tf != 2) = false := by simp [q]
  have HQ := zA q;clear q;go_enter Tryz.func82, Tryz.ntmps82
  go_wp2_with (first
    | (go_at_call 163; refine (HTF.out _ hw0).mono ?_; rintro e w2 ⟨rfl, hb2⟩; obtain ⟨q0, g0⟩ := blk (HB.out _ hb2).1; obtain ⟨q1, g1⟩ := blk (HB.out _ hb2).2)
    | (go_at_call 164; refine (HH.out _).mono ?_; rintro e w3 ⟨rfl, hst3⟩; have hb3 := zX hb2 hst3; clear q0 g0 q1 g1; obtain ⟨q0, g0⟩ := blk (HB.out _ hb3).1; obtain ⟨q1, g1⟩ := blk (HB.out _ hb3).2))
  have hdr : Below W1.heap.size W1 w2.drew := hb2.drew
  go_region_held3 (fun w' => w'.cell? ⟨w.heap.size, 0, none⟩ = some (.slice va s.lines.length vc) ∧ w'.cell? ⟨w.heap.size, 1, none⟩ = some (.int .i64 s.anc.line) ∧ w'.cell? ⟨w.heap.size, 2, none⟩ = some (.int .i64 s.anc.col) ∧ w'.cell? ⟨w.heap.size, 3, none⟩ = some (.int .i64 s.foc.line) ∧ w'.cell? ⟨w.heap.size, 4, none⟩ = some (.int .i64 s.foc.col) ∧ w'.cell? ⟨w.heap.size, 5, none⟩ = some (.int .i64 s.on) ∧ w'.cell? ⟨w.heap.size, 6, none⟩ = some (.int .i64 s.off)) (go_keep)
   (first
    | (go_at_call 164; refine (HH.out _).mono ?_; rintro e w5 ⟨rfl, hst5⟩; have hb5 := zX hdr hst5; obtain ⟨t0, u0⟩ := blk (HB.out _ hb5).1; obtain ⟨t1, u1⟩ := blk (HB.out _ hb5).2)
    | (go_at_call 165; refine (HFB.out _ hb5).mono ?_; rintro e w6 ⟨v6, rfl, hv6, hst6⟩; have hb6 := zX hb5 hst6; obtain ⟨a6, c6, rfl⟩ := hv6.slice; obtain ⟨t2, u2⟩ := blk (HB.out _ hb6).1; obtain ⟨t3, u3⟩ := blk (HB.out _ hb6).2; have HV := zA hv6; clear hv6))
  go_wp2_with fail;refine zM (jS rfl _ _ (w.heap.size + 1) (.slice a6 X.1.lines.length c6) (.int .i64 X.1.anc.line) (.int .i64 X.1.anc.col) (.int .i64 X.1.foc.line) (.int .i64 X.1.foc.col) (.int .i64 X.1.on) (.int .i64 X.1.off) (.int .i64 X.2) rfl rfl uR) rfl ?_;rw [HR.out];have hfin := H1.out.trans (hb6.mono hs1);have hs5 := hb5.size;have hv6 := HV.out;exact ⟨_, rfl, (qH (qB _) hv6 jN (fun b h _ => jL)), by ((with_reducible repeat' first | exact zE _ _ | assumption | refine zG ?_ ?_ _ | refine zH ?_ | refine qR ?_ | refine zF ?_ ?_ _) <;> go_size)⟩
 ·have HR := zA (HR.out.trans (if_pos ⟨q, q2⟩))
  have d2 : (tf != 2) = true := by simp [q]
  have d3 : (hd == 0) = true := by simp [q2]
  go_enter Tryz.func82, Tryz.ntmps82
  go_wp2_with (first
    | (go_at_call 163; refine (HTF.out _ hw0).mono ?_; rintro e w2 ⟨rfl, hb2⟩; obtain ⟨q0, g0⟩ := blk (HB.out _ hb2).1; obtain ⟨q1, g1⟩ := blk (HB.out _ hb2).2)
    | (go_at_call 164; refine (HH.out _).mono ?_; rintro e w3 ⟨rfl, hst3⟩; have hb3 := zX hb2 hst3; clear q0 g0 q1 g1; obtain ⟨q0, g0⟩ := blk (HB.out _ hb3).1; obtain ⟨q1, g1⟩ := blk (HB.out _ hb3).2))
  refine zM (jS rfl _ _ (w.heap.size + 1) (.slice none 0 0) (.int .i64 0) (.int .i64 0) (.int .i64 0) (.int .i64 0) (.int .i64 0) (.int .i64 0) (.int .i64 1) rfl rfl zCZ) rfl ?_;unfold StSaid;rw [HR.out];have hfin := H1.out.trans (hb3.mono hs1);exact ⟨_, rfl, SliceR.nil _ _ _ _ _ _, by ((with_reducible repeat' first | exact zE _ _ | assumption | refine zG ?_ ?_ _ | refine zH ?_ | refine qR ?_ | refine zF ?_ ?_ _) <;> go_size)⟩
 ·have HR := zA (HR.out.trans (if_neg (fun h => q2 h.2)))
  have d2 : (tf != 2) = true := by simp [q]
  have d3 : (hd == 0) = false := by simp [q2]
  clear q q2;go_enter Tryz.func82, Tryz.ntmps82
  go_wp2_with (first
    | (go_at_call 163; refine (HTF.out _ hw0).mono ?_; rintro e w2 ⟨rfl, hb2⟩; obtain ⟨q0, g0⟩ := blk (HB.out _ hb2).1; obtain ⟨q1, g1⟩ := blk (HB.out _ hb2).2)
    | (go_at_call 164; refine (HH.out _).mono ?_; rintro e w3 ⟨rfl, hst3⟩; have hb3 := zX hb2 hst3; clear q0 g0 q1 g1; obtain ⟨q0, g0⟩ := blk (HB.out _ hb3).1; obtain ⟨q1, g1⟩ := blk (HB.out _ hb3).2))
  have hdr : Below W1.heap.size W1 w3.drew := hb3.drew
  go_region_held3 (fun w' => w'.cell? ⟨w.heap.size, 0, none⟩ = some (.slice va s.lines.length vc) ∧ w'.cell? ⟨w.heap.size, 1, none⟩ = some (.int .i64 s.anc.line) ∧ w'.cell? ⟨w.heap.size, 2, none⟩ = some (.int .i64 s.anc.col) ∧ w'.cell? ⟨w.heap.size, 3, none⟩ = some (.int .i64 s.foc.line) ∧ w'.cell? ⟨w.heap.size, 4, none⟩ = some (.int .i64 s.foc.col) ∧ w'.cell? ⟨w.heap.size, 5, none⟩ = some (.int .i64 s.on) ∧ w'.cell? ⟨w.heap.size, 6, none⟩ = some (.int .i64 s.off)) (go_keep)
   (first
    | (go_at_call 164; refine (HH.out _).mono ?_; rintro e w5 ⟨rfl, hst5⟩; have hb5 := zX hdr hst5; obtain ⟨t0, u0⟩ := blk (HB.out _ hb5).1; obtain ⟨t1, u1⟩ := blk (HB.out _ hb5).2)
    | (go_at_call 165; refine (HFB.out _ hb5).mono ?_; rintro e w6 ⟨v6, rfl, hv6, hst6⟩; have hb6 := zX hb5 hst6; obtain ⟨a6, c6, rfl⟩ := hv6.slice; obtain ⟨t2, u2⟩ := blk (HB.out _ hb6).1; obtain ⟨t3, u3⟩ := blk (HB.out _ hb6).2; have HV := zA hv6; clear hv6))
  go_wp2_with fail;refine zM (jS rfl _ _ (w.heap.size + 1) (.slice a6 X.1.lines.length c6) (.int .i64 X.1.anc.line) (.int .i64 X.1.anc.col) (.int .i64 X.1.foc.line) (.int .i64 X.1.foc.col) (.int .i64 X.1.on) (.int .i64 X.1.off) (.int .i64 X.2) rfl rfl uR) rfl ?_;rw [HR.out];have hfin := H1.out.trans (hb6.mono hs1);have hs5 := hb5.size;have hv6 := HV.out;exact ⟨_, rfl, (qH (qB _) hv6 jN (fun b h _ => jL)), by ((with_reducible repeat' first | exact zE _ _ | assumption | refine zG ?_ ?_ _ | refine zH ?_ | refine qR ?_ | refine zF ?_ ?_ _) <;> go_size)⟩
set_option maxRecDepth 100000 in
theorem zHZ (v : Value) (s : St) (ar : ByteArray) (w : World) (S : Nat → Prop) (h : jD w S v s.lines) (he : EnvT w) (hs : Small s.lines) (hf : Fits s.lines) (ha : ar.size ≤ 1000000) (hn : 1 < ar.size) (hc : ((ar[0].toNat : Int) == 60) = true) (hl : ((ar[ar.size - 1].toNat : Int) == 62) = false) :
  Calls zV 82 #[stV v s, .string ar] w (StSaid (uZ s ar.data.toList) w) := by
 obtain ⟨W1, hW1, hB, hz, k0, k2⟩ := xU w v s;have HB : Hid (∀ W, Below W1.heap.size W1 W → W.heap[w.heap.size]? = some (.cells #[v, .int .i64 s.anc.line, .int .i64 s.anc.col, .int .i64 s.foc.line, .int .i64 s.foc.col, .int .i64 s.on, .int .i64 s.off] 26) ∧ W.heap[w.heap.size + 1]? = some (.cells #[.slice none 0 0, .int .i64 0, .int .i64 0, .int .i64 0, .int .i64 0, .int .i64 0, .int .i64 0] 26)) := zA fun W hW => ⟨zY hW k0, zY hW k2⟩;have hs1 := hB.size;have H1 := zA hB;have hw0 : Below W1.heap.size W1 W1 := zE _ _
 have HTF : Hid (∀ W, Below W1.heap.size W1 W → Calls zV 163 #[.string (ar)] W fun e w' => e = .returned (.tuple #[.int .i64 ((tagF (kD ar.data.toList)).getD 0), .bool (tagF (kD ar.data.toList)).isSome]) ∧ Below W.heap.size W w') := zA fun W hW => by
  have := zCr (ar) W ((he.below hB).below hW) (ha);rw [show kD ar.data.toList = ar.data.toList from (if_neg (fun h => by have := (zCN (c := 62) (zDS ar qD)).1 h.2.2; rw [show (((62 : UInt8).toNat : Nat) : Int) = 62 from rfl, hl] at this; cases this))];exact this
 have HFB : Hid (∀ k W, Below W1.heap.size W1 W → Calls zV 165 #[stV v s, .int .i64 k] W (StSaid (yL k s) W)) := zA fun k W hW => zCm v s k W S ((h.below (qB _) hB).below (qB _) hW) ((he.below hB).below hW) hs hf;have HR := zA (zCK s ar.data.toList);obtain ⟨tf, htf⟩ : ∃ t, (tagF (kD ar.data.toList)).getD 0 = t := ⟨_, rfl⟩;obtain ⟨tb, htb⟩ : ∃ t, (tagF (kD ar.data.toList)).isSome = t := ⟨_, rfl⟩;rw [htf] at HTF HR;rw [htb] at HTF;obtain ⟨p0, f0⟩ := blk k0;obtain ⟨p1, f1⟩ := blk k2;obtain ⟨va, vc, rfl⟩ := h.slice;have hsz : 0 ≤ (ar.size : Int) := zR _;have i1 : (1 : Int) < (ar.size : Int) := by omega
 have i0 : (0 : Int) < (ar.size : Int) := by omega
 clear h he hs hf hB k0 k2 htf htb;have HH : Hid (∀ W, Calls zV 164 #[.int .i64 tf] W fun e w' => e = .returned (.int .i64 (if 3 ≤ tf ∧ tf ≤ 5 then tf - 2 else 0)) ∧ Below W.heap.size W w') := zA fun W => zCi tf W;obtain ⟨hd, hhd⟩ : ∃ x : Int, (if 3 ≤ tf ∧ tf ≤ 5 then tf - 2 else 0) = x := ⟨_, rfl⟩;rw [hhd] at HH HR;clear hhd;obtain ⟨X, hX⟩ : ∃ X, yL hd s = X := ⟨_, rfl⟩;have HFB : Hid (∀ W, Below W1.heap.size W1 W → Calls zV 165 #[stV (.slice va s.lines.length vc) s, .int .i64 hd] W (StSaid X W)) := zA fun W hW => hX ▸ HFB.out hd W hW;rw [hX] at HR;clear hX;rcases (show tf = 2 ∨ (tf ≠ 2 ∧ hd = 0) ∨ (tf ≠ 2 ∧ hd ≠ 0) by omega) with q | ⟨q, q2⟩ | ⟨q, q2⟩
 ·have HR := zA (HR.out.trans (if_neg (fun h => h.1 q)))
  have d2 : (tf != 2) = false := by simp [q]
  have HQ := zA q;clear q;go_enter Tryz.func82, Tryz.ntmps82
  go_wp2_with (first
    | (go_at_call 163; refine (HTF.out _ hw0).mono ?_; rintro e w2 ⟨rfl, hb2⟩; obtain ⟨q0, g0⟩ := blk (HB.out _ hb2).1; obtain ⟨q1, g1⟩ := blk (HB.out _ hb2).2)
    | (go_at_call 164; refine (HH.out _).mono ?_; rintro e w3 ⟨rfl, hst3⟩; have hb3 := zX hb2 hst3; clear q0 g0 q1 g1; obtain ⟨q0, g0⟩ := blk (HB.out _ hb3).1; obtain ⟨q1, g1⟩ := blk (HB.out _ hb3).2))
  have hdr : Below W1.heap.size W1 w2.drew := hb2.drew
  go_region_held3 (fun w' => w'.cell? ⟨w.heap.size, 0, none⟩ = some (.slice va s.lines.length vc) ∧ w'.cell? ⟨w.heap.size, 1, none⟩ = some (.int .i64 s.anc.line) ∧ w'.cell? ⟨w.heap.size, 2, none⟩ = some (.int .i64 s.anc.col) ∧ w'.cell? ⟨w.heap.size, 3, none⟩ = some (.int .i64 s.foc.line) ∧ w'.cell? ⟨w.heap.size, 4, none⟩ = some (.int .i64 s.foc.col) ∧ w'.cell? ⟨w.heap.size, 5, none⟩ = some (.int .i64 s.on) ∧ w'.cell? ⟨w.heap.size, 6, none⟩ = some (.int .i64 s.off)) (go_keep)
   (first
    | (go_at_call 164; refine (HH.out _).mono ?_; rintro e w5 ⟨rfl, hst5⟩; have hb5 := zX hdr hst5; obtain ⟨t0, u0⟩ := blk (HB.out _ hb5).1; obtain ⟨t1, u1⟩ := blk (HB.out _ hb5).2)
    | (go_at_call 165; refine (HFB.out _ hb5).mono ?_; rintro e w6 ⟨v6, rfl, hv6, hst6⟩; have hb6 := zX hb5 hst6; obtain ⟨a6, c6, rfl⟩ := hv6.slice; obtain ⟨t2, u2⟩ := blk (HB.out _ hb6).1; obtain ⟨t3, u3⟩ := blk (HB.out _ hb6).2; have HV := zA hv6; clear hv6))
  go_wp2_with fail;refine zM (jS rfl _ _ (w.heap.size + 1) (.slice a6 X.1.lines.length c6) (.int .i64 X.1.anc.line) (.int .i64 X.1.anc.col) (.int .i64 X.1.foc.line) (.int .i64 X.1.foc.col) (.int .i64 X.1.on) (.int .i64 X.1.off) (.int .i64 X.2) rfl rfl uR) rfl ?_;rw [HR.out];have hfin := H1.out.trans (hb6.mono hs1);have hs5 := hb5.size;have hv6 := HV.out;exact ⟨_, rfl, (qH (qB _) hv6 jN (fun b h _ => jL)), by ((with_reducible repeat' first | exact zE _ _ | assumption | refine zG ?_ ?_ _ | refine zH ?_ | refine qR ?_ | refine zF ?_ ?_ _) <;> go_size)⟩
 ·have HR := zA (HR.out.trans (if_pos ⟨q, q2⟩))
  have d2 : (tf != 2) = true := by simp [q]
  have d3 : (hd == 0) = true := by simp [q2]
  go_enter Tryz.func82, Tryz.ntmps82
  go_wp2_with (first
    | (go_at_call 163; refine (HTF.out _ hw0).mono ?_; rintro e w2 ⟨rfl, hb2⟩; obtain ⟨q0, g0⟩ := blk (HB.out _ hb2).1; obtain ⟨q1, g1⟩ := blk (HB.out _ hb2).2)
    | (go_at_call 164; refine (HH.out _).mono ?_; rintro e w3 ⟨rfl, hst3⟩; have hb3 := zX hb2 hst3; clear q0 g0 q1 g1; obtain ⟨q0, g0⟩ := blk (HB.out _ hb3).1; obtain ⟨q1, g1⟩ := blk (HB.out _ hb3).2))
  refine zM (jS rfl _ _ (w.heap.size + 1) (.slice none 0 0) (.int .i64 0) (.int .i64 0) (.int .i64 0) (.int .i64 0) (.int .i64 0) (.int .i64 0) (.int .i64 1) rfl rfl zCZ) rfl ?_;unfold StSaid;rw [HR.out];have hfin := H1.out.trans (hb3.mono hs1);exact ⟨_, rfl, SliceR.nil _ _ _ _ _ _, by ((with_reducible repeat' first | exact zE _ _ | assumption | refine zG ?_ ?_ _ | refine zH ?_ | refine qR ?_ | refine zF ?_ ?_ _) <;> go_size)⟩
 ·have HR := zA (HR.out.trans (if_neg (fun h => q2 h.2)))
  have d2 : (tf != 2) = true := by simp [q]
  have d3 : (hd == 0) = false := by simp [q2]
  clear q q2;go_enter Tryz.func82, Tryz.ntmps82
  go_wp2_with (first
    | (go_at_call 163; refine (HTF.out _ hw0).mono ?_; rintro e w2 ⟨rfl, hb2⟩; obtain ⟨q0, g0⟩ := blk (HB.out _ hb2).1; obtain ⟨q1, g1⟩ := blk (HB.out _ hb2).2)
    | (go_at_call 164; refine (HH.out _).mono ?_; rintro e w3 ⟨rfl, hst3⟩; have hb3 := zX hb2 hst3; clear q0 g0 q1 g1; obtain ⟨q0, g0⟩ := blk (HB.out _ hb3).1; obtain ⟨q1, g1⟩ := blk (HB.out _ hb3).2))
  have hdr : Below W1.heap.size W1 w3.drew := hb3.drew
  go_region_held3 (fun w' => w'.cell? ⟨w.heap.size, 0, none⟩ = some (.slice va s.lines.length vc) ∧ w'.cell? ⟨w.heap.size, 1, none⟩ = some (.int .i64 s.anc.line) ∧ w'.cell? ⟨w.heap.size, 2, none⟩ = some (.int .i64 s.anc.col) ∧ w'.cell? ⟨w.heap.size, 3, none⟩ = some (.int .i64 s.foc.line) ∧ w'.cell? ⟨w.heap.size, 4, none⟩ = some (.int .i64 s.foc.col) ∧ w'.cell? ⟨w.heap.size, 5, none⟩ = some (.int .i64 s.on) ∧ w'.cell? ⟨w.heap.size, 6, none⟩ = some (.int .i64 s.off)) (go_keep)
   (first
    | (go_at_call 164; refine (HH.out _).mono ?_; rintro e w5 ⟨rfl, hst5⟩; have hb5 := zX hdr hst5; obtain ⟨t0, u0⟩ := blk (HB.out _ hb5).1; obtain ⟨t1, u1⟩ := blk (HB.out _ hb5).2)
    | (go_at_call 165; refine (HFB.out _ hb5).mono ?_; rintro e w6 ⟨v6, rfl, hv6, hst6⟩; have hb6 := zX hb5 hst6; obtain ⟨a6, c6, rfl⟩ := hv6.slice; obtain ⟨t2, u2⟩ := blk (HB.out _ hb6).1; obtain ⟨t3, u3⟩ := blk (HB.out _ hb6).2; have HV := zA hv6; clear hv6))
  go_wp2_with fail;refine zM (jS rfl _ _ (w.heap.size + 1) (.slice a6 X.1.lines.length c6) (.int .i64 X.1.anc.line) (.int .i64 X.1.anc.col) (.int .i64 X.1.foc.line) (.int .i64 X.1.foc.col) (.int .i64 X.1.on) (.int .i64 X.1.off) (.int .i64 X.2) rfl rfl uR) rfl ?_;rw [HR.out];have hfin := H1.out.trans (hb6.mono hs1);have hs5 := hb5.size;have hv6 := HV.out;exact ⟨_, rfl, (qH (qB _) hv6 jN (fun b h _ => jL)), by ((with_reducible repeat' first | exact zE _ _ | assumption | refine zG ?_ ?_ _ | refine zH ?_ | refine qR ?_ | refine zF ?_ ?_ _) <;> go_size)⟩
set_option maxRecDepth 100000 in
theorem zIF (v : Value) (s : St) (ar : ByteArray) (w : World) (S : Nat → Prop) (h : jD w S v s.lines) (he : EnvT w) (hs : Small s.lines) (hf : Fits s.lines) (ha : ar.size ≤ 1000000) (hn : 1 < ar.size) (hc : ((ar[0].toNat : Int) == 60) = true) (hl : ((ar[ar.size - 1].toNat : Int) == 62) = true) :
  Calls zV 82 #[stV v s, .string ar] w (StSaid (uZ s ar.data.toList) w) := by
 obtain ⟨W1, hW1, hB, hz, k0, k2⟩ := xU w v s;have HB : Hid (∀ W, Below W1.heap.size W1 W → W.heap[w.heap.size]? = some (.cells #[v, .int .i64 s.anc.line, .int .i64 s.anc.col, .int .i64 s.foc.line, .int .i64 s.foc.col, .int .i64 s.on, .int .i64 s.off] 26) ∧ W.heap[w.heap.size + 1]? = some (.cells #[.slice none 0 0, .int .i64 0, .int .i64 0, .int .i64 0, .int .i64 0, .int .i64 0, .int .i64 0] 26)) := zA fun W hW => ⟨zY hW k0, zY hW k2⟩;have hs1 := hB.size;have H1 := zA hB;have hw0 : Below W1.heap.size W1 W1 := zE _ _
 have HTF : Hid (∀ W, Below W1.heap.size W1 W → Calls zV 163 #[.string (ar.extract 1 (ar.size - 1))] W fun e w' => e = .returned (.tuple #[.int .i64 ((tagF (kD ar.data.toList)).getD 0), .bool (tagF (kD ar.data.toList)).isSome]) ∧ Below W.heap.size W w') := zA fun W hW => by
  have := zCr (ar.extract 1 (ar.size - 1)) W ((he.below hB).below hW) jB;rw [show kD ar.data.toList = (ar.extract 1 (ar.size - 1)).data.toList by rw [zLN ar hn]; exact if_pos ⟨by have h2 : ar.data.toList.length = ar.size := Array.length_toList; omega, (zCN (c := 60) (zDT ar qD)).2 hc, (zCN (c := 62) (zDS ar qD)).2 hl⟩];exact this
 have HFB : Hid (∀ k W, Below W1.heap.size W1 W → Calls zV 165 #[stV v s, .int .i64 k] W (StSaid (yL k s) W)) := zA fun k W hW => zCm v s k W S ((h.below (qB _) hB).below (qB _) hW) ((he.below hB).below hW) hs hf;have HR := zA (zCK s ar.data.toList);obtain ⟨tf, htf⟩ : ∃ t, (tagF (kD ar.data.toList)).getD 0 = t := ⟨_, rfl⟩;obtain ⟨tb, htb⟩ : ∃ t, (tagF (kD ar.data.toList)).isSome = t := ⟨_, rfl⟩;rw [htf] at HTF HR;rw [htb] at HTF;obtain ⟨p0, f0⟩ := blk k0;obtain ⟨p1, f1⟩ := blk k2;obtain ⟨va, vc, rfl⟩ := h.slice;have hsz : 0 ≤ (ar.size : Int) := zR _;have i1 : (1 : Int) < (ar.size : Int) := by omega
 have i0 : (0 : Int) < (ar.size : Int) := by omega
 clear h he hs hf hB k0 k2 htf htb;have HH : Hid (∀ W, Calls zV 164 #[.int .i64 tf] W fun e w' => e = .returned (.int .i64 (if 3 ≤ tf ∧ tf ≤ 5 then tf - 2 else 0)) ∧ Below W.heap.size W w') := zA fun W => zCi tf W;obtain ⟨hd, hhd⟩ : ∃ x : Int, (if 3 ≤ tf ∧ tf ≤ 5 then tf - 2 else 0) = x := ⟨_, rfl⟩;rw [hhd] at HH HR;clear hhd;obtain ⟨X, hX⟩ : ∃ X, yL hd s = X := ⟨_, rfl⟩;have HFB : Hid (∀ W, Below W1.heap.size W1 W → Calls zV 165 #[stV (.slice va s.lines.length vc) s, .int .i64 hd] W (StSaid X W)) := zA fun W hW => hX ▸ HFB.out hd W hW;rw [hX] at HR;clear hX;rcases (show tf = 2 ∨ (tf ≠ 2 ∧ hd = 0) ∨ (tf ≠ 2 ∧ hd ≠ 0) by omega) with q | ⟨q, q2⟩ | ⟨q, q2⟩
 ·have HR := zA (HR.out.trans (if_neg (fun h => h.1 q)))
  have d2 : (tf != 2) = false := by simp [q]
  have HQ := zA q;clear q;go_enter Tryz.func82, Tryz.ntmps82
  go_wp2_with (first
    | (go_at_call 163; refine (HTF.out _ hw0).mono ?_; rintro e w2 ⟨rfl, hb2⟩; obtain ⟨q0, g0⟩ := blk (HB.out _ hb2).1; obtain ⟨q1, g1⟩ := blk (HB.out _ hb2).2)
    | (go_at_call 164; refine (HH.out _).mono ?_; rintro e w3 ⟨rfl, hst3⟩; have hb3 := zX hb2 hst3; clear q0 g0 q1 g1; obtain ⟨q0, g0⟩ := blk (HB.out _ hb3).1; obtain ⟨q1, g1⟩ := blk (HB.out _ hb3).2))
  have hdr : Below W1.heap.size W1 w2.drew := hb2.drew
  go_region_held3 (fun w' => w'.cell? ⟨w.heap.size, 0, none⟩ = some (.slice va s.lines.length vc) ∧ w'.cell? ⟨w.heap.size, 1, none⟩ = some (.int .i64 s.anc.line) ∧ w'.cell? ⟨w.heap.size, 2, none⟩ = some (.int .i64 s.anc.col) ∧ w'.cell? ⟨w.heap.size, 3, none⟩ = some (.int .i64 s.foc.line) ∧ w'.cell? ⟨w.heap.size, 4, none⟩ = some (.int .i64 s.foc.col) ∧ w'.cell? ⟨w.heap.size, 5, none⟩ = some (.int .i64 s.on) ∧ w'.cell? ⟨w.heap.size, 6, none⟩ = some (.int .i64 s.off)) (go_keep)
   (first
    | (go_at_call 164; refine (HH.out _).mono ?_; rintro e w5 ⟨rfl, hst5⟩; have hb5 := zX hdr hst5; obtain ⟨t0, u0⟩ := blk (HB.out _ hb5).1; obtain ⟨t1, u1⟩ := blk (HB.out _ hb5).2)
    | (go_at_call 165; refine (HFB.out _ hb5).mono ?_; rintro e w6 ⟨v6, rfl, hv6, hst6⟩; have hb6 := zX hb5 hst6; obtain ⟨a6, c6, rfl⟩ := hv6.slice; obtain ⟨t2, u2⟩ := blk (HB.out _ hb6).1; obtain ⟨t3, u3⟩ := blk (HB.out _ hb6).2; have HV := zA hv6; clear hv6))
  go_wp2_with fail;refine zM (jS rfl _ _ (w.heap.size + 1) (.slice a6 X.1.lines.length c6) (.int .i64 X.1.anc.line) (.int .i64 X.1.anc.col) (.int .i64 X.1.foc.line) (.int .i64 X.1.foc.col) (.int .i64 X.1.on) (.int .i64 X.1.off) (.int .i64 X.2) rfl rfl uR) rfl ?_;rw [HR.out];have hfin := H1.out.trans (hb6.mono hs1);have hs5 := hb5.size;have hv6 := HV.out;exact ⟨_, rfl, (qH (qB _) hv6 jN (fun b h _ => jL)), by ((with_reducible repeat' first | exact zE _ _ | assumption | refine zG ?_ ?_ _ | refine zH ?_ | refine qR ?_ | refine zF ?_ ?_ _) <;> go_size)⟩
 ·have HR := zA (HR.out.trans (if_pos ⟨q, q2⟩))
  have d2 : (tf != 2) = true := by simp [q]
  have d3 : (hd == 0) = true := by simp [q2]
  go_enter Tryz.func82, Tryz.ntmps82
  go_wp2_with (first
    | (go_at_call 163; refine (HTF.out _ hw0).mono ?_; rintro e w2 ⟨rfl, hb2⟩; obtain ⟨q0, g0⟩ := blk (HB.out _ hb2).1; obtain ⟨q1, g1⟩ := blk (HB.out _ hb2).2)
    | (go_at_call 164; refine (HH.out _).mono ?_; rintro e w3 ⟨rfl, hst3⟩; have hb3 := zX hb2 hst3; clear q0 g0 q1 g1; obtain ⟨q0, g0⟩ := blk (HB.out _ hb3).1; obtain ⟨q1, g1⟩ := blk (HB.out _ hb3).2))
  refine zM (jS rfl _ _ (w.heap.size + 1) (.slice none 0 0) (.int .i64 0) (.int .i64 0) (.int .i64 0) (.int .i64 0) (.int .i64 0) (.int .i64 0) (.int .i64 1) rfl rfl zCZ) rfl ?_;unfold StSaid;rw [HR.out];have hfin := H1.out.trans (hb3.mono hs1);exact ⟨_, rfl, SliceR.nil _ _ _ _ _ _, by ((with_reducible repeat' first | exact zE _ _ | assumption | refine zG ?_ ?_ _ | refine zH ?_ | refine qR ?_ | refine zF ?_ ?_ _) <;> go_size)⟩
 ·have HR := zA (HR.out.trans (if_neg (fun h => q2 h.2)))
  have d2 : (tf != 2) = true := by simp [q]
  have d3 : (hd == 0) = false := by simp [q2]
  clear q q2;go_enter Tryz.func82, Tryz.ntmps82
  go_wp2_with (first
    | (go_at_call 163; refine (HTF.out _ hw0).mono ?_; rintro e w2 ⟨rfl, hb2⟩; obtain ⟨q0, g0⟩ := blk (HB.out _ hb2).1; obtain ⟨q1, g1⟩ := blk (HB.out _ hb2).2)
    | (go_at_call 164; refine (HH.out _).mono ?_; rintro e w3 ⟨rfl, hst3⟩; have hb3 := zX hb2 hst3; clear q0 g0 q1 g1; obtain ⟨q0, g0⟩ := blk (HB.out _ hb3).1; obtain ⟨q1, g1⟩ := blk (HB.out _ hb3).2))
  have hdr : Below W1.heap.size W1 w3.drew := hb3.drew
  go_region_held3 (fun w' => w'.cell? ⟨w.heap.size, 0, none⟩ = some (.slice va s.lines.length vc) ∧ w'.cell? ⟨w.heap.size, 1, none⟩ = some (.int .i64 s.anc.line) ∧ w'.cell? ⟨w.heap.size, 2, none⟩ = some (.int .i64 s.anc.col) ∧ w'.cell? ⟨w.heap.size, 3, none⟩ = some (.int .i64 s.foc.line) ∧ w'.cell? ⟨w.heap.size, 4, none⟩ = some (.int .i64 s.foc.col) ∧ w'.cell? ⟨w.heap.size, 5, none⟩ = some (.int .i64 s.on) ∧ w'.cell? ⟨w.heap.size, 6, none⟩ = some (.int .i64 s.off)) (go_keep)
   (first
    | (go_at_call 164; refine (HH.out _).mono ?_; rintro e w5 ⟨rfl, hst5⟩; have hb5 := zX hdr hst5; obtain ⟨t0, u0⟩ := blk (HB.out _ hb5).1; obtain ⟨t1, u1⟩ := blk (HB.out _ hb5).2)
    | (go_at_call 165; refine (HFB.out _ hb5).mono ?_; rintro e w6 ⟨v6, rfl, hv6, hst6⟩; have hb6 := zX hb5 hst6; obtain ⟨a6, c6, rfl⟩ := hv6.slice; obtain ⟨t2, u2⟩ := blk (HB.out _ hb6).1; obtain ⟨t3, u3⟩ := blk (HB.out _ hb6).2; have HV := zA hv6; clear hv6))
  go_wp2_with fail;refine zM (jS rfl _ _ (w.heap.size + 1) (.slice a6 X.1.lines.length c6) (.int .i64 X.1.anc.line) (.int .i64 X.1.anc.col) (.int .i64 X.1.foc.line) (.int .i64 X.1.foc.col) (.int .i64 X.1.on) (.int .i64 X.1.off) (.int .i64 X.2) rfl rfl uR) rfl ?_;rw [HR.out];have hfin := H1.out.trans (hb6.mono hs1);have hs5 := hb5.size;have hv6 := HV.out;exact ⟨_, rfl, (qH (qB _) hv6 jN (fun b h _ => jL)), by ((with_reducible repeat' first | exact zE _ _ | assumption | refine zG ?_ ?_ _ | refine zH ?_ | refine qR ?_ | refine zF ?_ ?_ _) <;> go_size)⟩
theorem zJy (v : Value) (s : St) (ar : ByteArray) (w : World) (S : Nat → Prop) (h : jD w S v s.lines) (he : EnvT w) (hs : Small s.lines) (hf : Fits s.lines) (ha : ar.size ≤ 1000000) :
  Calls zV 82 #[stV v s, .string ar] w (StSaid (uZ s ar.data.toList) w) := by
 by_cases hn : ar.size ≤ 1
 ·exact zJx v s ar w S h he hs hf ha hn
 ·cases hc : ((ar[0].toNat : Int) == 60)
  ·exact zJw v s ar w S h he hs hf ha qD hc
  ·cases hl : ((ar[ar.size - 1].toNat : Int) == 62)
   ·exact zHZ v s ar w S h he hs hf ha qD hc hl
   ·exact zIF v s ar w S h he hs hf ha qD hc hl
end Go.Proofs.YtcliojeoindceaaGreatDoor
