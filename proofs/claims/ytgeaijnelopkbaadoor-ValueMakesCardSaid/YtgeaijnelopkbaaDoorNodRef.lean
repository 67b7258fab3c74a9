/- The walks of value.Bits, Link. -/
import Derived.Test.YtgeaijnelopkbaaDoorValSays
import Derived.Test.YtgeaijnelopkbaaDoorNodR
import Derived.Deep.RegionHeld3
import Derived.Deep.Cut
import Derived.Deep.CutRange
set_option linter.unusedVariables false
set_option linter.unusedSimpArgs false
namespace Go.Proofs.YtgeaijnelopkbaaDoor
open Go.RowKit
open Go.Proofs.Qw
attribute [local go_sem ↓] Go.wp_at_zero Go.wp_at_succ
set_option maxHeartbeats 400000 in
theorem overV_any (a b c : Int) (w : World) : Calls Tryd.prog 25 #[.int .i64 a, .int .i64 b, .int .i64 c] w fun e w' => e = .returned (.int .i64 (bits .or .i64 (bits .andNot .i64 a c) b)) ∧ w = w' := by
  go_enter Tryd.func25, Tryd.ntmps25
  go_wp2
  go_ret
  exact ⟨rfl, rfl⟩
set_option maxHeartbeats 1000000 in
theorem nodBits_any (HP : CssP) (n : Nod) (a : Value) (ka : Option Addr) (km kc : Nat) (g : Int) (w : World) (S : Nat → Prop) (hA : AttsR false w S a n.attrs) (he : Env w) (hsz : ∀ x ∈ n.attrs, x.value.length ≤ 100000) :
    Calls Tryd.prog 12 #[nodV n a (.slice ka km kc), .int .i64 g] w fun e w' => e = .returned (.int .i64 (bitsN n g)) ∧ Below w.heap.size w w' := by
  obtain ⟨la, lc, rfl⟩ := hA.slice
  obtain ⟨W1, hW1, hB, hz, hB1⟩ := one_node w (.int .i64 n.tag) (.slice la n.attrs.length lc) (.string ⟨n.text.toArray⟩) (.slice ka km kc)
  have HC := Lib.hid (nodSays_any HP n _ ka km kc W1 S (hA.below (rdOf_stable _) hB) (he.below hB) hsz)
  have HO : Hid (∀ W, Calls Tryd.prog 25 #[.int .i64 g, .int .i64 (saysN n).1, .int .i64 (saysN n).2] W fun e w' => e = .returned (.int .i64 (bitsN n g)) ∧ W = w') := Lib.hid fun W => overV_any _ _ _ W
  have HB := Lib.hid hB
  obtain ⟨p1, f1⟩ := blk hB1
  clear hA he hsz hz hB1
  unfold nodV at *
  generalize n.attrs.length = m at *
  generalize saysN n = r at *
  generalize bitsN n g = q at *
  go_enter Tryd.func12, Tryd.ntmps12
  go_wp2_with (first
    | (go_at_call 10; refine HC.out.mono ?_; rintro e w2 ⟨rfl, hb2⟩)
    | (go_at_call 25; refine (HO.out _).mono ?_; rintro e w3 ⟨rfl, rfl⟩))
  go_ret
  exact ⟨rfl, below_from HB.out hb2⟩
set_option maxHeartbeats 1000000 in
theorem nodLink_any (n : Nod) (a : Value) (ka : Option Addr) (km kc : Nat) (g : List UInt8) (w : World) (S : Nat → Prop) (hA : AttsR false w S a n.attrs) (he : EnvT w) (hsz : ∀ x ∈ n.attrs, x.value.length ≤ 100000) :
    Calls Tryd.prog 14 #[nodV n a (.slice ka km kc), .string ⟨g.toArray⟩] w fun e w' => e = .returned (.string ⟨(linkN n g).toArray⟩) ∧ Below w.heap.size w w' := by
  obtain ⟨la, lc, rfl⟩ := hA.slice
  obtain ⟨W1, hW1, hB, hz, hB1⟩ := one_node w (.int .i64 n.tag) (.slice la n.attrs.length lc) (.string ⟨n.text.toArray⟩) (.slice ka km kc)
  have HG := Lib.hid (attrGet_any _ n.attrs hrefN W1 S (hA.below (rdOf_stable _) hB))
  have HL : Hid (linkN n g = match attrF n.attrs hrefN with | some h => if n.tag = 10 ∧ targetF h = true then h else g | none => g) := Lib.hid rfl
  have HZ : Hid (∀ h, attrF n.attrs hrefN = some h → h.length ≤ 100000) := Lib.hid fun h hh => by have := attrF_size (nm := hrefN) hsz; rw [hh] at this; exact this
  have HB := Lib.hid hB
  have HE := Lib.hid (he.below hB)
  have HB1 := Lib.hid hB1
  obtain ⟨p1, f1⟩ := blk hB1
  clear hA he hsz hz hB1
  unfold nodV
  generalize linkN n g = q at *
  generalize attrF n.attrs hrefN = f at *
  generalize n.attrs.length = m at *
  generalize n.tag = t at *
  cases f with
  | none =>
    have HG : Hid (Calls Tryd.prog 34 #[.slice la m lc, .string ⟨#[104, 114, 101, 102]⟩] W1 fun e w' => e = .returned (.tuple #[.string ⟨#[]⟩, .bool false]) ∧ Below W1.heap.size W1 w') := HG
    go_enter Tryd.func14, Tryd.ntmps14
    go_wp2_with (go_at_call 34; refine HG.out.mono ?_; rintro e w2 ⟨rfl, hb2⟩)
    go_ret
    rw [HL.out]
    exact ⟨rfl, below_from HB.out hb2⟩
  | some h =>
    have HG : Hid (Calls Tryd.prog 34 #[.slice la m lc, .string ⟨#[104, 114, 101, 102]⟩] W1 fun e w' => e = .returned (.tuple #[.string ⟨h.toArray⟩, .bool true]) ∧ Below W1.heap.size W1 w') := HG
    have HT : Hid (∀ W, EnvT W → Calls Tryd.prog 26 #[.string ⟨h.toArray⟩] W fun e w' => e = .returned (.bool (targetF h)) ∧ Below W.heap.size W w') := Lib.hid fun W hW => target_any ⟨h.toArray⟩ W hW (by have := HZ.out h rfl; simp [ByteArray.size]; omega)
    by_cases h1 : t = 10
    · subst h1
      generalize hr : targetF h = r at *
      have HR := Lib.hid hr
      clear hr
      go_enter Tryd.func14, Tryd.ntmps14
      go_wp2_with (first
        | (go_at_call 34; refine HG.out.mono ?_; rintro e w2 ⟨rfl, hb2⟩; have he2 := HE.out.below hb2; obtain ⟨p2, f2⟩ := blk (heap_below hb2 HB1.out))
        | (go_at_call 26; refine (HT.out _ he2).mono ?_; rintro e w3 ⟨rfl, hb3⟩; cases r))
      · go_ret
        rw [HL.out]
        exact ⟨by simp [HR.out], below_from (below_from HB.out hb2) hb3⟩
      · go_ret
        rw [HL.out]
        exact ⟨by simp [HR.out], below_from (below_from HB.out hb2) hb3⟩
    · have HN := Lib.hid h1
      go_enter Tryd.func14, Tryd.ntmps14
      go_wp2_with (go_at_call 34; refine HG.out.mono ?_; rintro e w2 ⟨rfl, hb2⟩; obtain ⟨p2, f2⟩ := blk (heap_below hb2 HB1.out))
      go_ret
      rw [HL.out]
      exact ⟨by simp [HN.out], below_from HB.out hb2⟩
end Go.Proofs.YtgeaijnelopkbaaDoor
namespace Go.Proofs.Qw
open Go.RowKit Go.Proofs.YtgeaijnelopkbaaDoor
def wrapT (b : Int) : Nat → List Nod → List Nod
  | 0, l => l
  | 1, l => wrap1 b 8 14 l
  | 2, l => wrap1 b 4 13 (wrap1 b 8 14 l)
  | 3, l => wrap1 b 2 12 (wrap1 b 4 13 (wrap1 b 8 14 l))
  | _, l => wrapB b l
theorem SliceR.one_new {α : Type} {t : TypeId} {k : Nat} {R : Rd α} {own : Bool} (w : World) {S : Nat → Prop} (vs : List Value) {x : α} (hk : vs.length = k) (hR : R (w.alloc (.cells vs.toArray t)) S vs x) (hS : S w.heap.size) :
    SliceR t k R own (w.alloc (.cells vs.toArray t)) S (.slice (some ⟨w.heap.size, 0, none⟩) 1 1) [x] :=
  ⟨_, 1, rfl, by simp, by decide, .inr ⟨w.heap.size, 0, rfl, hS, by simp, fun _ => ⟨_, heap_new _ _ rfl, by simp [hk]⟩, fun i y hy => by
    cases i with
    | zero =>
      injection hy with e
      subst e
      exact ⟨vs, hk, hR, fun j u hu => by rw [cell_of_heap (heap_new _ _ rfl)]; simpa using hu⟩
    | succ i => simp at hy⟩⟩
theorem nods_wrap {h : Nat} {w : World} {n : Nat} {v a : Value} {l : List Nod} {ats : List Att} (t : Int) (hv : NodsR true h w (fun b => n ≤ b) v l) (ha : AttsR true w (fun b => n ≤ b) a ats) (hn : n ≤ w.heap.size) :
    NodsR true (h + 1) (w.alloc (.cells #[.int .i64 t, a, .string ⟨#[]⟩, v] 25)) (fun b => n ≤ b) (.slice (some ⟨w.heap.size, 0, none⟩) 1 1) [.mk t ats [] l] :=
  SliceR.one_new w [.int .i64 t, a, .string ⟨#[]⟩, v] rfl ⟨a, v, rfl, SliceR.stable (rdOf_stable _) ha ((Keeps.refl _ _).alloc _) (fun _ h _ => h), SliceR.stable (rdNod_stable _ _) hv ((Keeps.refl _ _).alloc _) (fun _ h _ => h)⟩ hn
end Go.Proofs.Qw
namespace Go.Proofs.YtgeaijnelopkbaaDoor
open Go.RowKit
open Go.Proofs.Qw
attribute [local go_sem ↓] Go.wp_at_zero Go.wp_at_succ
set_option maxHeartbeats 1000000 in
theorem text_node (x : List UInt8) (w : World) : Calls Tryd.prog 29 #[.string ⟨x.toArray⟩] w fun e w' => e = .returned (nodV (.mk 0 [] x []) (.slice none 0 0) (.slice none 0 0)) ∧ Below w.heap.size w w' := by
  obtain ⟨W1, hW1, hB, hz, hB1⟩ := one_node w (.int .i64 0) (.slice none 0 0) (.string ⟨#[]⟩) (.slice none 0 0)
  obtain ⟨p1, f1⟩ := blk hB1
  go_enter Tryd.func29, Tryd.ntmps29
  go_wp2_with fail
  refine bodyPost_ret (results_node rfl _ _ w.heap.size (.int .i64 0) (.slice none 0 0) (.string ⟨x.toArray⟩) (.slice none 0 0) rfl (by simp [heap_set, putIn, hB1])) rfl ?_
  exact ⟨rfl, (((hB.setCell (Nat.le_refl _) _).setCell (Nat.le_refl _) _).setCell (Nat.le_refl _) _).setCell (Nat.le_refl _) _⟩
set_option maxHeartbeats 2000000 in
theorem elem_any (h : Nat) (t : Int) (v : Value) (l : List Nod) (own : Bool) (w w0 : World) (S : Nat → Prop) (hv : NodsR own h w0 S v l) (h0 : Below w0.heap.size w0 w) (hn : l.length ≤ 1000000) (hf : FitK l) :
    Calls Tryd.prog 30 #[.int .i64 t, v] w fun e w' => ∃ k', e = .returned (nodV (.mk t [] [] l) (.slice none 0 0) k') ∧ NodsR true h w' (fun b => w.heap.size ≤ b) k' l ∧ Below w.heap.size w w' := by
  have HC : Hid (∀ W, Below w0.heap.size w0 W → Calls Tryd.prog 41 #[v] W fun e w' => ∃ v', e = .returned v' ∧ NodsR true h w' (fun b => W.heap.size ≤ b) v' l ∧ Below W.heap.size W w') := Lib.hid fun W hW => owns_any h v l own W w0 S hv hW hn hf
  obtain ⟨a, c, rfl⟩ := hv.slice
  obtain ⟨W1, hW1, hB, hz, hB1⟩ := one_node w (.int .i64 0) (.slice none 0 0) (.string ⟨#[]⟩) (.slice none 0 0)
  have hw := below_from h0 hB
  have HZ := Lib.hid hz
  clear hv hn hf hz
  go_enter Tryd.func30, Tryd.ntmps30
  go_wp2_with (go_at_call 41; refine (HC.out _ hw).mono ?_; rintro e w2 ⟨v1, rfl, hv1, hb1⟩; obtain ⟨a1, c1, rfl⟩ := hv1.slice; have hB2 := heap_below hb1 hB1; obtain ⟨p1, f1⟩ := blk hB2)
  have z := HZ.out
  have hz1 := hb1.size
  refine bodyPost_ret (results_node rfl _ _ w.heap.size (.int .i64 t) (.slice none 0 0) (.string ⟨#[]⟩) (.slice a1 l.length c1) rfl (by simp [heap_set, putIn, hB2])) rfl ?_
  refine ⟨_, rfl, hv1.stable (rdNod_stable _ _) (((((Keeps.refl _ _).set (by simp; omega) _).set (by simp; omega) _).set (by simp; omega) _).set (by simp; omega) _) (fun b h _ => ?_), ?_⟩
  · (try simp at h); omega
  · have hbb := hB.trans (hb1.mono (by omega))
    exact (((hbb.setCell (Nat.le_refl _) _).setCell (Nat.le_refl _) _).setCell (Nat.le_refl _) _).setCell (Nat.le_refl _) _
set_option maxRecDepth 100000 in
set_option maxHeartbeats 4000000 in
theorem wrap_any (h : Nat) (b : Int) (href : List UInt8) (v : Value) (l : List Nod) (own : Bool) (w w0 : World) (S : Nat → Prop) (hv : NodsR own h w0 S v l) (h0 : Below w0.heap.size w0 w) (hn : l.length ≤ 1000000) (hf : FitK l) :
    Calls Tryd.prog 28 #[.int .i64 b, .string ⟨href.toArray⟩, v] w fun e w' => ∃ v' h', e = .returned v' ∧ NodsR true h' w' (fun b => w.heap.size ≤ b) v' (wrapN b href l) ∧ Below w.heap.size w w' := by
  have HC : Hid (∀ W, Below w0.heap.size w0 W → Calls Tryd.prog 41 #[v] W fun e w' => ∃ v', e = .returned v' ∧ NodsR true h w' (fun b => W.heap.size ≤ b) v' l ∧ Below W.heap.size W w') := Lib.hid fun W hW => owns_any h v l own W w0 S hv hW hn hf
  obtain ⟨a, c, rfl⟩ := hv.slice
  have HLen : Hid (l.length = l.length) := Lib.hid rfl
  clear hv hn hf
  go_enter Tryd.func28, Tryd.ntmps28
  go_wp2_with (go_at_call 41; refine (HC.out _ h0).mono ?_; rintro e w2 ⟨v1, rfl, hv1, hb1⟩; obtain ⟨a1, c1, hve⟩ := hv1.slice; subst hve; have HV := Lib.hid hv1; have HB := Lib.hid hb1; clear hv1)
  have hz1 := hb1.size
  obtain ⟨W3, hW3⟩ : ∃ W3, w2.alloc (.cells #[.int .i64 14, .int .i64 13, .int .i64 12, .int .i64 11] 3) = W3 := ⟨_, rfl⟩
  have hB3 : W3.heap[w2.heap.size]? = some (.cells #[.int .i64 14, .int .i64 13, .int .i64 12, .int .i64 11] 3) := by rw [← hW3]; exact heap_new _ _ rfl
  have HV3 : Hid (NodsR true h W3 (fun b => w.heap.size ≤ b) (.slice a1 l.length c1) l) := Lib.hid (by rw [← hW3]; exact HV.out.stable (rdNod_stable _ _) ((Keeps.refl _ _).alloc _) (fun _ h _ => h))
  have HB3 : Hid (Below w.heap.size w W3) := Lib.hid (by rw [← hW3]; exact HB.out.alloc hz1 _)
  have HZ3 : Hid (W3.heap[w2.heap.size]? = some (.cells #[.int .i64 14, .int .i64 13, .int .i64 12, .int .i64 11] 3)) := Lib.hid hB3
  rw [hW3]
  go_loopw [7, 9, 14] (fun o _ i wr => ∃ (k : Nat) (z : Int) (h2 : Nat), z = k ∧ k ≤ 4 ∧ i = .int .i64 z ∧ Hid (NodsR true h2 wr (fun b => w.heap.size ≤ b) o (wrapT b k l)) ∧ Hid (Below W3.heap.size W3 wr)) (fun _ _ i _ => 4 - (intOf i).toNat)
  case atStart => exact ⟨0, 0, h, rfl, by omega, rfl, HV3, Lib.hid (Below.refl _ _)⟩
  case round =>
    obtain ⟨k, z, h2, hz, hk, rfl, HO, HR⟩ := hrel
    obtain ⟨q0, g0⟩ := blk (heap_below HR.out HZ3.out)
    obtain ⟨oa, oc, hoe⟩ := HO.out.slice
    subst hoe
    have HS3 := Lib.hid (HB3.out.size)
    have HSR := Lib.hid (HR.out.size)
    have HT : Hid (w2.heap.size < W3.heap.size) := Lib.hid (by rw [← hW3]; simp)
    generalize hln : (wrapT b k l).length = ln at *
    have HLN := Lib.hid hln
    clear hln hW3 hB3
    obtain ⟨rfl, rfl⟩ | ⟨rfl, rfl⟩ | ⟨rfl, rfl⟩ | ⟨rfl, rfl⟩ | ⟨rfl, rfl⟩ : (z = 0 ∧ k = 0) ∨ (z = 1 ∧ k = 1) ∨ (z = 2 ∧ k = 2) ∨ (z = 3 ∧ k = 3) ∨ (z = 4 ∧ k = 4) := by omega
    all_goals clear hz hk
    · by_cases hb : bits .and .i64 b 8 = 0
      · have HBB := Lib.hid hb
        go_wp2_with fail
        go_roundw
        case rel => exact ⟨1, 1, h2, rfl, by omega, by go_num, Lib.hid (by have h1 := HO.out; exact Eq.mp (congrArg (fun z => NodsR true h2 wr (fun b => w.heap.size ≤ b) _ z) (show wrapT b 0 l = wrapT b 1 l from (if_pos HBB.out).symm)) h1), HR⟩
        case measure => simp [intOf]
      · have HBB := Lib.hid hb
        go_wp2_with fail
        go_roundw
        case rel => exact ⟨1, 1, h2 + 1, rfl, by omega, by go_num, Lib.hid (by have h1 := HO.out; rw [show wrapT b 1 l = [.mk 14 [] [] (wrapT b 0 l)] from if_neg HBB.out]; exact nods_wrap 14 h1 (SliceR.nil _ _ _ _ _ _) (Nat.le_trans HS3.out HSR.out)), Lib.hid (HR.out.alloc HSR.out _)⟩
        case measure => simp [intOf]
    · by_cases hb : bits .and .i64 b 4 = 0
      · have HBB := Lib.hid hb
        go_wp2_with fail
        go_roundw
        case rel => exact ⟨2, 2, h2, rfl, by omega, by go_num, Lib.hid (by have h1 := HO.out; exact Eq.mp (congrArg (fun z => NodsR true h2 wr (fun b => w.heap.size ≤ b) _ z) (show wrapT b 1 l = wrapT b 2 l from (if_pos HBB.out).symm)) h1), HR⟩
        case measure => simp [intOf]
      · have HBB := Lib.hid hb
        go_wp2_with fail
        go_roundw
        case rel => exact ⟨2, 2, h2 + 1, rfl, by omega, by go_num, Lib.hid (by have h1 := HO.out; rw [show wrapT b 2 l = [.mk 13 [] [] (wrapT b 1 l)] from if_neg HBB.out]; exact nods_wrap 13 h1 (SliceR.nil _ _ _ _ _ _) (Nat.le_trans HS3.out HSR.out)), Lib.hid (HR.out.alloc HSR.out _)⟩
        case measure => simp [intOf]
    · by_cases hb : bits .and .i64 b 2 = 0
      · have HBB := Lib.hid hb
        go_wp2_with fail
        go_roundw
        case rel => exact ⟨3, 3, h2, rfl, by omega, by go_num, Lib.hid (by have h1 := HO.out; exact Eq.mp (congrArg (fun z => NodsR true h2 wr (fun b => w.heap.size ≤ b) _ z) (show wrapT b 2 l = wrapT b 3 l from (if_pos HBB.out).symm)) h1), HR⟩
        case measure => simp [intOf]
      · have HBB := Lib.hid hb
        go_wp2_with fail
        go_roundw
        case rel => exact ⟨3, 3, h2 + 1, rfl, by omega, by go_num, Lib.hid (by have h1 := HO.out; rw [show wrapT b 3 l = [.mk 12 [] [] (wrapT b 2 l)] from if_neg HBB.out]; exact nods_wrap 12 h1 (SliceR.nil _ _ _ _ _ _) (Nat.le_trans HS3.out HSR.out)), Lib.hid (HR.out.alloc HSR.out _)⟩
        case measure => simp [intOf]
    · by_cases hb : bits .and .i64 b 1 = 0
      · have HBB := Lib.hid hb
        go_wp2_with fail
        go_roundw
        case rel => exact ⟨4, 4, h2, rfl, by omega, by go_num, Lib.hid (by have h1 := HO.out; exact Eq.mp (congrArg (fun z => NodsR true h2 wr (fun b => w.heap.size ≤ b) _ z) (show wrapT b 3 l = wrapT b 4 l from (if_pos HBB.out).symm)) h1), HR⟩
        case measure => simp [intOf]
      · have HBB := Lib.hid hb
        go_wp2_with fail
        go_roundw
        case rel => exact ⟨4, 4, h2 + 1, rfl, by omega, by go_num, Lib.hid (by have h1 := HO.out; rw [show wrapT b 4 l = [.mk 11 [] [] (wrapT b 3 l)] from if_neg HBB.out]; exact nods_wrap 11 h1 (SliceR.nil _ _ _ _ _ _) (Nat.le_trans HS3.out HSR.out)), Lib.hid (HR.out.alloc HSR.out _)⟩
        case measure => simp [intOf]
    · have HS := Lib.hid (Nat.le_trans HS3.out HSR.out)
      have HBW : Hid (Below w.heap.size w wr) := Lib.hid (HB3.out.trans (HR.out.mono HS3.out))
      by_cases hb : href = []
      · have HBB := Lib.hid hb
        subst hb
        go_wp2_with fail
        go_ret
        exact ⟨_, rfl, ⟨h2, HO.out⟩, HBW.out⟩
      · have HBB := Lib.hid hb
        have hq : href.isEmpty = false := by cases href with | nil => exact absurd rfl hb | cons _ _ => rfl
        clear hb
        go_wp2_with fail
        go_ret
        refine ⟨_, h2 + 1, rfl, ?_, (HBW.out.alloc HS.out _).alloc (Nat.le_trans HS.out (by simp)) _⟩
        rw [show wrapN b href l = [.mk 10 (hrefA href) [] (wrapT b 4 l)] from if_neg HBB.out]
        have h1 : NodsR true h2 (wr.alloc (.cells #[.string ⟨#[104, 114, 101, 102]⟩, .string ⟨href.toArray⟩] 48)) (fun b => w.heap.size ≤ b) (.slice oa ln oc) (wrapT b 4 l) := HO.out.stable (rdNod_stable _ _) ((Keeps.refl _ _).alloc _) (fun _ h _ => h)
        have h3 : AttsR true (wr.alloc (.cells #[.string ⟨#[104, 114, 101, 102]⟩, .string ⟨href.toArray⟩] 48)) (fun b => w.heap.size ≤ b) (.slice (some ⟨wr.heap.size, 0, none⟩) 1 1) (hrefA href) := SliceR.one_new wr [.string ⟨#[104, 114, 101, 102]⟩, .string ⟨href.toArray⟩] rfl rfl HS.out
        have h4 := nods_wrap 10 h1 h3 (Nat.le_trans HS.out (by simp))
        simpa using h4
end Go.Proofs.YtgeaijnelopkbaaDoor
namespace Go.Proofs.YtgeaijnelopkbaaDoor
open Go.RowKit
open Go.Proofs.Qw
attribute [local go_sem ↓] Go.wp_at_zero Go.wp_at_succ
def CntAt (h : Nat) : Prop := ∀ (n : Nod) (a k : Value) (B3 B4 s : Nat) (T : TypeId) (w0 w : World) (S : Nat → Prop), AttsR false w0 S a n.attrs → NodsR false h w0 S k n.kids → Below w0.heap.size w0 w → w0.heap.size ≤ B3 → w0.heap.size ≤ B4 → ¬ B3 = B4 → w.heap[B3]? = some (.cells #[.int .i64 s] 3) →
    w.heap[B4]? = some (.cells #[.func (.func 45) #[] #[.pointer (some ⟨B3, 0, none⟩), .pointer (some ⟨B4, 0, none⟩)]] T) → s + n.count ≤ 1000000000 →
    Calls Tryd.prog 45 #[nodV n a k, .pointer (some ⟨B3, 0, none⟩), .pointer (some ⟨B4, 0, none⟩)] w fun e w' => (∃ u, e = .returned u) ∧ w'.heap[B3]? = some (.cells #[.int .i64 ((s + n.count : Nat) : Int)] 3) ∧
      w'.heap[B4]? = some (.cells #[.func (.func 45) #[] #[.pointer (some ⟨B3, 0, none⟩), .pointer (some ⟨B4, 0, none⟩)]] T) ∧ Below w0.heap.size w0 w'
set_option maxRecDepth 100000 in
set_option maxHeartbeats 2000000 in
theorem cnt_step (h : Nat) (ih : ∀ h', h = h' + 1 → CntAt h') : CntAt h := by
  intro n a kv B3 B4 s T w0 w S hA hK h0 hb3 hb4 hne h3 h4 hs
  obtain ⟨la, lc, rfl⟩ := hA.slice
  obtain ⟨ka, kc, rfl, hc, hm, hx⟩ := nods_shape hK
  have HX := Lib.hid hx
  have HI := Lib.hid ih
  have HD := Lib.hid (count_kids n)
  have HN : Hid (s + 1 + Nod.counts n.kids ≤ 1000000000) := Lib.hid (by have := count_kids n; omega)
  have hs1 : s + 1 ≤ 1000000000 := by have := count_kids n; omega
  clear hA hK hx ih hs
  unfold maxLen at hm
  obtain ⟨W1, hW1, hB, hz, hB1⟩ := one_node w (.int .i64 n.tag) (.slice la n.attrs.length lc) (.string ⟨n.text.toArray⟩) (.slice ka n.kids.length kc)
  have hz3 : B3 < w.heap.size := (Array.getElem?_eq_some_iff.1 h3).1
  have hz4 : B4 < w.heap.size := (Array.getElem?_eq_some_iff.1 h4).1
  have g3 := heap_below hB h3
  have g4 := heap_below hB h4
  have H3 := Lib.hid g3
  have H4 := Lib.hid g4
  have HB := Lib.hid (below_from h0 hB)
  have HZ := Lib.hid hz
  clear hz h3 h4
  obtain ⟨p1, f1⟩ := blk hB1
  obtain ⟨p3, f3⟩ := blk g3
  obtain ⟨p4, f4⟩ := blk g4
  clear g3 g4
  have ne1 : ¬ B3 = w.heap.size := by omega
  have ne2 : ¬ w.heap.size = B3 := by omega
  have ne3 : ¬ B4 = B3 := fun e => hne e.symm
  unfold nodV
  go_enter Tryd.func45, Tryd.ntmps45
  go_wp2_with fail
  go_loopw [11] (fun i wr => ∃ k : Nat, k ≤ n.kids.length ∧ i = .int .i64 k ∧ Hid (wr.heap[B3]? = some (.cells #[.int .i64 ((s + 1 + Nod.counts (n.kids.take k) : Nat) : Int)] 3)) ∧ Hid (wr.heap[B4]? = some (.cells #[.func (.func 45) #[] #[.pointer (some ⟨B3, 0, none⟩), .pointer (some ⟨B4, 0, none⟩)]] T)) ∧ Hid (Below w0.heap.size w0 wr)) (fun i _ => n.kids.length - (intOf i).toNat)
  case atStart => exact ⟨0, Nat.zero_le _, rfl, Lib.hid (by simp [heap_set, putIn, H3.out, Nod.counts]), Lib.hid (by simp [heap_set, hne, H4.out]), Lib.hid (HB.out.setCell hb3 _)⟩
  case round =>
    obtain ⟨k, hk, rfl, HR3, HR4, HBr⟩ := hrel
    clear p1 f1 p3 f3 p4 f4
    by_cases hlt : k < n.kids.length
    · obtain ⟨x, hl, hd⟩ := getOf n.kids k hlt
      obtain ⟨b, o, xa, xc, ya, yc, h', rfl, rfl, hA⟩ := HX.out k x hl
      have HT := Lib.hid (counts_take hl)
      have HL := Lib.hid (counts_le n.kids (k + 1))
      have HW : Hid (∀ W, Below w0.heap.size w0 W → W.heap[B3]? = some (.cells #[.int .i64 ((s + 1 + Nod.counts (n.kids.take k) : Nat) : Int)] 3) → W.heap[B4]? = some (.cells #[.func (.func 45) #[] #[.pointer (some ⟨B3, 0, none⟩), .pointer (some ⟨B4, 0, none⟩)]] T) →
          Calls Tryd.prog 45 #[nodV x (.slice xa x.attrs.length xc) (.slice ya x.kids.length yc), .pointer (some ⟨B3, 0, none⟩), .pointer (some ⟨B4, 0, none⟩)] W fun e w' => (∃ u, e = .returned u) ∧ w'.heap[B3]? = some (.cells #[.int .i64 ((s + 1 + Nod.counts (n.kids.take (k + 1)) : Nat) : Int)] 3) ∧
            w'.heap[B4]? = some (.cells #[.func (.func 45) #[] #[.pointer (some ⟨B3, 0, none⟩), .pointer (some ⟨B4, 0, none⟩)]] T) ∧ Below w0.heap.size w0 w') := Lib.hid fun W h1 h2 h3 => by
        have e : s + 1 + Nod.counts (n.kids.take (k + 1)) = s + 1 + Nod.counts (n.kids.take k) + x.count := by have := HT.out; omega
        rw [e]
        exact HI.out h' rfl x _ _ B3 B4 _ T w0 W S hA.attrsR hA.kidsR h1 hb3 hb4 hne h2 h3 (by have := HL.out; have := HN.out; omega)
      obtain ⟨_, c0, c1, c2, c3, _, _⟩ := hA.below HBr.out
      obtain ⟨p4, f4⟩ := blk HR4.out
      have l4 : B4 < wr.heap.size := (Array.getElem?_eq_some_iff.1 HR4.out).1
      have l0 := HBr.out.size
      have i0 : (0 : Int) ≤ (k : Int) := Int.natCast_nonneg _
      have i1 : (k : Int) < (n.kids.length : Int) := by omega
      clear hA hd hl
      go_wp2_with (go_at_call 45; refine (HW.out _ (HBr.out.alloc l0 _) (heap_old _ _ HR3.out) (heap_old _ _ HR4.out)).mono ?_; rintro e w2 ⟨⟨u, rfl⟩, h3, h4, hb2⟩)
      go_roundw
      case rel => exact ⟨k + 1, hlt, by go_num, Lib.hid h3, Lib.hid h4, Lib.hid hb2⟩
      case measure => simp [intOf]; omega
    · obtain rfl : k = n.kids.length := by omega
      go_wp2_with fail
      go_returns
      refine ⟨⟨_, rfl⟩, ?_, HR4.out, HBr.out⟩
      have h1 := HR3.out
      rw [List.take_length] at h1
      rw [HD.out, show s + (1 + Nod.counts n.kids) = s + 1 + Nod.counts n.kids by omega]
      exact h1
theorem cnt_all : ∀ h, CntAt h
  | 0 => cnt_step 0 (fun _ e => by cases e)
  | h + 1 => cnt_step (h + 1) (fun h' e => by cases e; exact cnt_all h)
set_option maxRecDepth 100000 in
set_option maxHeartbeats 2000000 in
theorem count_any (h : Nat) (n : Nod) (a k : Value) (w : World) (S : Nat → Prop) (hA : AttsR false w S a n.attrs) (hK : NodsR false h w S k n.kids) (hn : n.count ≤ 1000000000) :
    Calls Tryd.prog 20 #[nodV n a k] w fun e w' => e = .returned (.int .i64 n.count) ∧ Below w.heap.size w w' := by
  have HC : Hid (∀ (B3 B4 : Nat) (T : TypeId) (W : World), Below w.heap.size w W → w.heap.size ≤ B3 → w.heap.size ≤ B4 → ¬ B3 = B4 → W.heap[B3]? = some (.cells #[.int .i64 ((0 : Nat) : Int)] 3) → W.heap[B4]? = some (.cells #[.func (.func 45) #[] #[.pointer (some ⟨B3, 0, none⟩), .pointer (some ⟨B4, 0, none⟩)]] T) →
      Calls Tryd.prog 45 #[nodV n a k, .pointer (some ⟨B3, 0, none⟩), .pointer (some ⟨B4, 0, none⟩)] W fun e w' => (∃ u, e = .returned u) ∧ w'.heap[B3]? = some (.cells #[.int .i64 n.count] 3) ∧ Below w.heap.size w w') :=
    Lib.hid fun B3 B4 T W h1 h2 h3 h4 h5 h6 => (cnt_all h n a k B3 B4 0 T w W S hA hK h1 h2 h3 h4 h5 h6 (by omega)).mono fun _ _ ⟨e1, e2, _, e4⟩ => ⟨e1, by rw [Nat.zero_add] at e2; exact e2, e4⟩
  obtain ⟨la, lc, rfl⟩ := hA.slice
  obtain ⟨ka, kc, rfl⟩ := hK.slice
  clear hA hK hn
  unfold nodV at *
  go_enter Tryd.func20, Tryd.ntmps20
  go_wp2_with (go_at_call 45; refine (HC.out (w.heap.size + 1) (w.heap.size + 1 + 1) _ _ ((((Below.refl _ _).alloc (Nat.le_refl _) _).alloc (by simp) _).alloc (by simp; omega) _) (by omega) (by omega) (by omega) (heap_old _ _ (heap_new _ _ (by simp))) (heap_new _ _ (by simp))).mono ?_; rintro e w2 ⟨⟨u, rfl⟩, h3, hb⟩; obtain ⟨p3, f3⟩ := blk h3)
  go_ret
  exact ⟨rfl, hb⟩
end Go.Proofs.YtgeaijnelopkbaaDoor
namespace Go.Proofs.YtgeaijnelopkbaaDoor
open Go.RowKit
open Go.Proofs.Qw
theorem guardAtt : Tryd.prog.eqGuardType Tryd.prog.depth 48 = false := by kernel_rfl
theorem run_neq_att (x y : Att) (w : World) : (binOp .neq 48 (.agg #[.string ⟨x.name.toArray⟩, .string ⟨x.value.toArray⟩]) (.agg #[.string ⟨y.name.toArray⟩, .string ⟨y.value.toArray⟩])).run Tryd.prog w = .ok (.bool (!decide (x = y))) w := by
  have h1 : Tryd.prog.stoodInHeld 48 = false := by kernel_rfl
  have h2 : Tryd.prog.underlying 48 = some (.struct (Tryd.prog.fieldsOf 48)) := by kernel_rfl
  rw [run_neq_struct, show (10000:Nat) = 9999 + 1 from rfl, run_equalIn_agg _ _ _ _ _ h2 h1]
  simp [Tryd.underlying48, go_sem]
  obtain ⟨b, c⟩ := x
  obtain ⟨e, f⟩ := y
  simp only [Att.mk.injEq]
  by_cases e2 : b = e <;> by_cases e3 : c = f <;> simp [e2, e3]
theorem att_cases (x y : Att) : ((x.name == y.name) = true ∧ (x.value == y.value) = true ∧ x = y) ∨ ((x.name == y.name) = false ∧ x ≠ y) ∨ ((x.name == y.name) = true ∧ (x.value == y.value) = false ∧ x ≠ y) := by
  by_cases e1 : x.name = y.name
  · by_cases e2 : x.value = y.value
    · exact .inl ⟨by simp [e1], by simp [e2], by obtain ⟨a, b⟩ := x; obtain ⟨c, d⟩ := y; simp_all⟩
    · exact .inr (.inr ⟨by simp [e1], by simp [e2], by rintro rfl; exact e2 rfl⟩)
  · exact .inr (.inl ⟨by simp [e1], by rintro rfl; exact e1 rfl⟩)
set_option maxRecDepth 100000 in
set_option maxHeartbeats 4000000 in
theorem equalAtt_any (v1 v2 : Value) (d1 d2 : List Att) (w : World) (S1 S2 : Nat → Prop) (h1 : AttsR false w S1 v1 d1) (h2 : AttsR false w S2 v2 d2) :
    Calls Tryd.prog 59 #[v1, v2] w fun e w' => e = .returned (.bool (decide (d1 = d2))) ∧ Below w.heap.size w w' := by
  obtain ⟨a, c, rfl, hc, hm, hx⟩ := atts_shape h1
  obtain ⟨a2, c2, rfl, hc2, hm2, hx2⟩ := atts_shape h2
  have HX := Lib.hid hx
  have HX2 := Lib.hid hx2
  clear hx hx2 h1 h2
  unfold maxLen at hm hm2
  go_enter Tryd.func59, Tryd.ntmps59
  by_cases hl : d1.length = d2.length
  · have HL := Lib.hid hl
    have hlb : ((d1.length : Int) != d2.length) = false := by simp [hl]
    clear hl
    go_wp2_with fail
    go_loopw [13, 5] (fun i _ wr => ∃ k : Nat, k ≤ d1.length ∧ i = .int .i64 k ∧ Hid (d1.take k = d2.take k) ∧ Below w.heap.size w wr) (fun i _ _ => d1.length - (intOf i).toNat)
    case atStart => exact ⟨0, Nat.zero_le _, rfl, Lib.hid rfl, Below.refl _ _⟩
    case round =>
      obtain ⟨k, hk, rfl, HE, hb⟩ := hrel
      by_cases hlt : k < d1.length
      · obtain ⟨x, hx, _⟩ := getOf d1 k hlt
        obtain ⟨y, hy, _⟩ := getOf d2 k (by have := HL.out; omega)
        obtain ⟨b, o, rfl, hz, c0, c1⟩ := HX.out k x hx; obtain ⟨b2, o2, rfl, hz2, k0, k1⟩ := HX2.out k y hy; have c0 := (hb.cell (p := ⟨b, o + k * 2, none⟩) hz).trans c0; have c1 := (hb.cell (p := ⟨b, o + k * 2 + 1, none⟩) hz).trans c1; have k0 := (hb.cell (p := ⟨b2, o2 + k * 2, none⟩) hz2).trans k0; have k1 := (hb.cell (p := ⟨b2, o2 + k * 2 + 1, none⟩) hz2).trans k1
        have i0 : (0 : Int) ≤ (k : Int) := Int.natCast_nonneg _
        have i1 : (k : Int) < (d1.length : Int) := by omega
        have i2 : (k : Int) < (d2.length : Int) := by have := HL.out; omega
        have HXY := Lib.hid (And.intro hx hy)
        clear hx hy
        have hg := guardAtt
        have hcs : ((∀ w, (binOp .neq 48 (.agg #[.string ⟨x.name.toArray⟩, .string ⟨x.value.toArray⟩]) (.agg #[.string ⟨y.name.toArray⟩, .string ⟨y.value.toArray⟩])).run Tryd.prog w = .ok (.bool false) w) ∧ x = y) ∨ ((∀ w, (binOp .neq 48 (.agg #[.string ⟨x.name.toArray⟩, .string ⟨x.value.toArray⟩]) (.agg #[.string ⟨y.name.toArray⟩, .string ⟨y.value.toArray⟩])).run Tryd.prog w = .ok (.bool true) w) ∧ x ≠ y) := by (by_cases e : x = y; exact .inl ⟨fun w => by rw [run_neq_att, e]; simp, e⟩; exact .inr ⟨fun w => by rw [run_neq_att]; simp [e], e⟩)
        rcases hcs with ⟨hq, hxy⟩ | ⟨hq, hxy⟩
        · have HE2 := Lib.hid (take_both HXY.out.1 HXY.out.2 HE.out hxy)
          clear hxy
          go_wp2_with fail
          go_quiet (fail)
          all_goals go_wp2_with fail
          go_roundw
          case rel => exact ⟨k + 1, hlt, by go_num, HE2, drewN_below hb⟩
          case measure => simp [intOf]; omega
        all_goals
          have HN := Lib.hid (ne_at HXY.out.1 HXY.out.2 hxy)
          clear hxy
          go_wp2_with fail
          go_quiet (fail)
          all_goals go_wp2_with fail
          go_ret
          exact ⟨by rw [decide_eq_false HN.out]; rfl, drewN_below hb⟩
      · obtain rfl : k = d1.length := by omega
        have HD : Hid (d1 = d2) := Lib.hid (by have h1 := HE.out; have h2 := HL.out; rw [List.take_length, h2, List.take_length] at h1; exact h1)
        have HB := Lib.hid hb
        clear hb
        go_wp2_with fail
        go_ret
        exact ⟨by rw [decide_eq_true HD.out]; rfl, HB.out⟩
  · have hlb : ((d1.length : Int) != d2.length) = true := by simp; omega
    have HL : Hid (d1 ≠ d2) := Lib.hid fun e => hl (e ▸ rfl)
    clear hl
    go_wp2_with fail
    go_ret
    exact ⟨by rw [decide_eq_false HL.out]; rfl, Below.refl _ _⟩
set_option maxRecDepth 100000 in
set_option maxHeartbeats 4000000 in
theorem refSameA_any (v1 v2 : Value) (d1 d2 : List Att) (w : World) (S1 S2 : Nat → Prop) (h1 : AttsR false w S1 v1 d1) (h2 : AttsR false w S2 v2 d2) :
    Calls Tryd.prog 42 #[v1, v2] w fun e w' => e = .returned (.bool (decide (d1 = d2))) ∧ Below w.heap.size w w' := by
  obtain ⟨a, c, rfl, hc, hm, hx⟩ := atts_shape h1
  obtain ⟨a2, c2, rfl, hc2, hm2, hx2⟩ := atts_shape h2
  have HX := Lib.hid hx
  have HX2 := Lib.hid hx2
  clear hx hx2 h1 h2
  unfold maxLen at hm hm2
  go_enter Tryd.func42, Tryd.ntmps42
  by_cases hl : d1.length = d2.length
  · have HL := Lib.hid hl
    have hlb : ((d1.length : Int) != d2.length) = false := by simp [hl]
    clear hl
    go_wp2_with fail
    go_loopw [5] (fun i wr => ∃ k : Nat, k ≤ d1.length ∧ i = .int .i64 k ∧ Hid (d1.take k = d2.take k) ∧ Below w.heap.size w wr) (fun i _ => d1.length - (intOf i).toNat)
    case atStart => exact ⟨0, Nat.zero_le _, rfl, Lib.hid rfl, Below.refl _ _⟩
    case round =>
      obtain ⟨k, hk, rfl, HE, hb⟩ := hrel
      by_cases hlt : k < d1.length
      · obtain ⟨x, hx, _⟩ := getOf d1 k hlt
        obtain ⟨y, hy, _⟩ := getOf d2 k (by have := HL.out; omega)
        obtain ⟨b, o, rfl, hz, c0, c1⟩ := HX.out k x hx; obtain ⟨b2, o2, rfl, hz2, k0, k1⟩ := HX2.out k y hy; have c0 := (hb.cell (p := ⟨b, o + k * 2, none⟩) hz).trans c0; have c1 := (hb.cell (p := ⟨b, o + k * 2 + 1, none⟩) hz).trans c1; have k0 := (hb.cell (p := ⟨b2, o2 + k * 2, none⟩) hz2).trans k0; have k1 := (hb.cell (p := ⟨b2, o2 + k * 2 + 1, none⟩) hz2).trans k1
        have i0 : (0 : Int) ≤ (k : Int) := Int.natCast_nonneg _
        have i1 : (k : Int) < (d1.length : Int) := by omega
        have i2 : (k : Int) < (d2.length : Int) := by have := HL.out; omega
        have HXY := Lib.hid (And.intro hx hy)
        clear hx hy
        have hg := guardAtt
        have hcs := att_cases x y
        rcases hcs with ⟨hq, hq2, hxy⟩ | ⟨hq, hxy⟩ | ⟨hq, hq2, hxy⟩
        · have HE2 := Lib.hid (take_both HXY.out.1 HXY.out.2 HE.out hxy)
          clear hxy
          go_wp2_with fail
          go_quiet (fail)
          all_goals go_wp2_with fail
          go_roundw
          case rel => exact ⟨k + 1, hlt, by go_num, HE2, drewN_below hb⟩
          case measure => simp [intOf]; omega
        all_goals
          have HN := Lib.hid (ne_at HXY.out.1 HXY.out.2 hxy)
          clear hxy
          go_wp2_with fail
          go_quiet (fail)
          all_goals go_wp2_with fail
          go_ret
          exact ⟨by rw [decide_eq_false HN.out]; rfl, drewN_below hb⟩
      · obtain rfl : k = d1.length := by omega
        have HD : Hid (d1 = d2) := Lib.hid (by have h1 := HE.out; have h2 := HL.out; rw [List.take_length, h2, List.take_length] at h1; exact h1)
        have HB := Lib.hid hb
        clear hb
        go_wp2_with fail
        go_ret
        exact ⟨by rw [decide_eq_true HD.out]; rfl, HB.out⟩
  · have hlb : ((d1.length : Int) != d2.length) = true := by simp; omega
    have HL : Hid (d1 ≠ d2) := Lib.hid fun e => hl (e ▸ rfl)
    clear hl
    go_wp2_with fail
    go_ret
    exact ⟨by rw [decide_eq_false HL.out]; rfl, Below.refl _ _⟩
theorem attrsSame_any (v1 v2 : Value) (d1 d2 : List Att) (w : World) (S1 S2 : Nat → Prop) (h1 : AttsR false w S1 v1 d1) (h2 : AttsR false w S2 v2 d2) :
    Calls Tryd.prog 43 #[v1, v2] w fun e w' => e = .returned (.bool (decide (d1 = d2))) ∧ Below w.heap.size w w' := by
  have HC := Lib.hid (equalAtt_any v1 v2 d1 d2 w S1 S2 h1 h2)
  clear h1 h2
  generalize decide (d1 = d2) = r at *
  go_enter Tryd.func43, Tryd.ntmps43
  go_wp2_with (go_at_call 59; refine HC.out.mono ?_; rintro e w1 ⟨rfl, hb1⟩)
  go_ret
  exact ⟨rfl, hb1⟩
end Go.Proofs.YtgeaijnelopkbaaDoor
namespace Go.Proofs.YtgeaijnelopkbaaDoor
open Go.RowKit
open Go.Proofs.Qw
attribute [local go_sem ↓] Go.wp_at_zero Go.wp_at_succ
theorem nodSame_eq (n1 n2 : Nod) : decide (n1 = n2) = ((n1.tag == n2.tag) && (n1.text == n2.text) && decide (n1.attrs = n2.attrs) && decide (n1.kids = n2.kids)) := by
  obtain ⟨a, b, c, d⟩ := n1
  obtain ⟨e, f, g, h⟩ := n2
  simp only [Nod.mk.injEq, Nod.tag, Nod.attrs, Nod.text, Nod.kids]
  by_cases h1 : a = e <;> by_cases h2 : b = f <;> by_cases h3 : c = g <;> by_cases h4 : d = h <;> simp [h1, h2, h3, h4]
def EqAt (h : Nat) : Prop := ∀ (v1 v2 : Value) (d1 d2 : List Nod) (w : World) (S1 S2 : Nat → Prop), NodsR false h w S1 v1 d1 → NodsR false h w S2 v2 d2 →
    Calls Tryd.prog 44 #[v1, v2, .func (.func 19) #[] #[]] w fun e w' => e = .returned (.bool (decide (d1 = d2))) ∧ Below w.heap.size w w'
set_option maxRecDepth 100000 in
set_option maxHeartbeats 4000000 in
theorem nodSame_of (h : Nat) (HE0 : EqAt h) (n1 n2 : Nod) (a1 k1 a2 k2 : Value) (w : World) (S1 S2 : Nat → Prop) (hA1 : AttsR false w S1 a1 n1.attrs) (hK1 : NodsR false h w S1 k1 n1.kids) (hA2 : AttsR false w S2 a2 n2.attrs) (hK2 : NodsR false h w S2 k2 n2.kids) :
    Calls Tryd.prog 19 #[nodV n1 a1 k1, nodV n2 a2 k2] w fun e w' => e = .returned (.bool (decide (n1 = n2))) ∧ Below w.heap.size w w' := by
  have HC1 : Hid (∀ W, Below w.heap.size w W → Calls Tryd.prog 43 #[a1, a2] W fun e w' => e = .returned (.bool (decide (n1.attrs = n2.attrs))) ∧ Below W.heap.size W w') := Lib.hid fun W h => attrsSame_any _ _ _ _ W S1 S2 (hA1.below (rdOf_stable _) h) (hA2.below (rdOf_stable _) h)
  have HC2 : Hid (∀ W, Below w.heap.size w W → Calls Tryd.prog 44 #[k1, k2, .func (.func 19) #[] #[]] W fun e w' => e = .returned (.bool (decide (n1.kids = n2.kids))) ∧ Below W.heap.size W w') := Lib.hid fun W hW => HE0 _ _ _ _ W S1 S2 (hK1.below (rdNod_stable _ _) hW) (hK2.below (rdNod_stable _ _) hW)
  have HE := Lib.hid (nodSame_eq n1 n2)
  obtain ⟨la, lc, rfl⟩ := hA1.slice
  obtain ⟨ca, cc, rfl⟩ := hK1.slice
  obtain ⟨la2, lc2, rfl⟩ := hA2.slice
  obtain ⟨ca2, cc2, rfl⟩ := hK2.slice
  generalize decide (n1 = n2) = r at *
  generalize decide (n1.attrs = n2.attrs) = x at *
  generalize decide (n1.kids = n2.kids) = y at *
  generalize hz1 : (n1.text == n2.text) = z at *
  clear hA1 hA2 hK1 hK2 HE0
  obtain ⟨W1, hW1, hB, hz, hB1, hB2⟩ := two_nodes w (.int .i64 n1.tag) (.slice la n1.attrs.length lc) (.string ⟨n1.text.toArray⟩) (.slice ca n1.kids.length cc) (.int .i64 n2.tag) (.slice la2 n2.attrs.length lc2) (.string ⟨n2.text.toArray⟩) (.slice ca2 n2.kids.length cc2)
  have HZ := Lib.hid hz
  clear hz
  obtain ⟨p1, f1⟩ := blk hB1
  obtain ⟨p2, f2⟩ := blk hB2
  go_enter Tryd.func19, Tryd.ntmps19
  cases z
  all_goals
    go_wp2_with (first | (go_at_call 43; refine (HC1.out _ hB).mono ?_; rintro e w2 ⟨rfl, hb2⟩; have hbb := hB.trans (hb2.mono hB.size); have hA3 := heap_below hb2 hB1; have hA4 := heap_below hb2 hB2; obtain ⟨p3, f3⟩ := blk hA3; obtain ⟨p4, f4⟩ := blk hA4; clear hb2; cases x) | (go_at_call 44; refine (HC2.out _ hbb).mono ?_; rintro e w3 ⟨rfl, hb3⟩; have hb4 := Below.trans hbb (hb3.mono (Below.size hbb))))
  all_goals
    go_ret
    refine ⟨?_, by first | assumption | exact hB⟩
    rw [HE.out]
    refine congrArg Ending.returned (congrArg Value.bool ?_)
    clear HE HC1 HC2
    simp (config := { failIfUnchanged := false }) [*]
set_option maxRecDepth 100000 in
set_option maxHeartbeats 4000000 in
theorem eq_step (h : Nat) (ih : ∀ h', h = h' + 1 → EqAt h') : EqAt h := by
  intro v1 v2 d1 d2 w S1 S2 h1 h2
  obtain ⟨a, c, rfl, hc, hm, hx⟩ := nods_shape h1
  obtain ⟨a2, c2, rfl, hc2, hm2, hx2⟩ := nods_shape h2
  have HX := Lib.hid hx
  have HX2 := Lib.hid hx2
  have HI := Lib.hid ih
  clear hx hx2 h1 h2 ih
  unfold maxLen at hm hm2
  go_enter Tryd.func44, Tryd.ntmps44
  by_cases hl : d1.length = d2.length
  · have HL := Lib.hid hl
    have hlb : ((d1.length : Int) != d2.length) = false := by simp [hl]
    clear hl
    go_wp2_with fail
    go_loopw [17, 7] (fun i _ wr => ∃ k : Nat, k ≤ d1.length ∧ i = .int .i64 k ∧ Hid (d1.take k = d2.take k) ∧ Below w.heap.size w wr) (fun i _ _ => d1.length - (intOf i).toNat)
    case atStart => exact ⟨0, Nat.zero_le _, rfl, Lib.hid rfl, Below.refl _ _⟩
    case round =>
      obtain ⟨k, hk, rfl, HE, hb⟩ := hrel
      by_cases hlt : k < d1.length
      · obtain ⟨x, hx, _⟩ := getOf d1 k hlt
        obtain ⟨y, hy, _⟩ := getOf d2 k (by have := HL.out; omega)
        obtain ⟨b, o, la, lc, ca, cc, h', rfl, rfl, hA⟩ := HX.out k x hx
        obtain ⟨b2, o2, la2, lc2, ca2, cc2, h'', e'', rfl, hA2⟩ := HX2.out k y hy
        obtain rfl : h' = h'' := by omega
        clear e''
        have HW : Hid (∀ W, Below wr.heap.size wr W → Calls Tryd.prog 19 #[nodV x (.slice la x.attrs.length lc) (.slice ca x.kids.length cc), nodV y (.slice la2 y.attrs.length lc2) (.slice ca2 y.kids.length cc2)] W fun e w' => e = .returned (.bool (decide (x = y))) ∧ Below W.heap.size W w') := Lib.hid fun W hW => by
          have h3 := hA.below (below_from hb hW)
          have h4 := hA2.below (below_from hb hW)
          exact nodSame_of h' (HI.out h' rfl) x y _ _ _ _ W S1 S2 h3.attrsR h3.kidsR h4.attrsR h4.kidsR
        obtain ⟨hz, c0, c1, c2, c3, _, _⟩ := hA.below hb
        obtain ⟨hz2, k0, k1, k2, k3, _, _⟩ := hA2.below hb
        have i0 : (0 : Int) ≤ (k : Int) := Int.natCast_nonneg _
        have i1 : (k : Int) < (d1.length : Int) := by omega
        have i2 : (k : Int) < (d2.length : Int) := by have := HL.out; omega
        have HXY := Lib.hid (And.intro hx hy)
        have hbs := hb.size
        clear hx hy hA hA2
        have hwr : Below wr.heap.size wr wr := Below.refl _ _
        rcases Classical.em (x = y) with hxy | hxy
        · have HE2 := Lib.hid (take_both HXY.out.1 HXY.out.2 HE.out hxy)
          have hd : decide (x = y) = true := decide_eq_true hxy
          rw [hd] at HW
          clear hxy hd
          go_wp2_with (go_at_call 19; go_must (refine (HW.out _ (by go_grown)).mono ?_); rintro e w1 ⟨rfl, hb1⟩)
          go_roundw
          case rel => exact ⟨k + 1, hlt, by go_num, HE2, (hb.trans ((((Below.refl _ _).alloc hbs _).alloc (by simp; omega) _).trans (hb1.mono (by simp; omega))))⟩
          case measure => simp [intOf]; omega
        · have HN := Lib.hid (ne_at HXY.out.1 HXY.out.2 hxy)
          have hd : decide (x = y) = false := decide_eq_false hxy
          rw [hd] at HW
          clear hxy hd
          go_wp2_with (go_at_call 19; go_must (refine (HW.out _ (by go_grown)).mono ?_); rintro e w1 ⟨rfl, hb1⟩)
          go_ret
          exact ⟨by rw [decide_eq_false HN.out]; rfl, (hb.trans ((((Below.refl _ _).alloc hbs _).alloc (by simp; omega) _).trans (hb1.mono (by simp; omega))))⟩
      · obtain rfl : k = d1.length := by omega
        have HD : Hid (d1 = d2) := Lib.hid (by have h1 := HE.out; have h2 := HL.out; rw [List.take_length, h2, List.take_length] at h1; exact h1)
        have HB := Lib.hid hb
        clear hb
        go_wp2_with fail
        go_ret
        exact ⟨by rw [decide_eq_true HD.out]; rfl, HB.out⟩
  · have hlb : ((d1.length : Int) != d2.length) = true := by simp; omega
    have HL : Hid (d1 ≠ d2) := Lib.hid fun e => hl (e ▸ rfl)
    clear hl
    go_wp2_with fail
    go_ret
    exact ⟨by rw [decide_eq_false HL.out]; rfl, Below.refl _ _⟩
theorem eq_any : ∀ h, EqAt h
  | 0 => eq_step 0 (fun _ e => by cases e)
  | h + 1 => eq_step (h + 1) (fun h' e => by cases e; exact eq_any h)
theorem nodSame_any (h : Nat) (n1 n2 : Nod) (a1 k1 a2 k2 : Value) (w : World) (S1 S2 : Nat → Prop) (hA1 : AttsR false w S1 a1 n1.attrs) (hK1 : NodsR false h w S1 k1 n1.kids) (hA2 : AttsR false w S2 a2 n2.attrs) (hK2 : NodsR false h w S2 k2 n2.kids) :
    Calls Tryd.prog 19 #[nodV n1 a1 k1, nodV n2 a2 k2] w fun e w' => e = .returned (.bool (decide (n1 = n2))) ∧ Below w.heap.size w w' := nodSame_of h (eq_any h) n1 n2 a1 k1 a2 k2 w S1 S2 hA1 hK1 hA2 hK2
end Go.Proofs.YtgeaijnelopkbaaDoor
namespace Go.Proofs.Qw
open Go.RowKit Go.Proofs.YtgeaijnelopkbaaDoor
def fontN : List UInt8 := [102, 111, 110, 116, 45, 119, 101, 105, 103, 104, 116, 58, 32, 110, 111, 114, 109, 97, 108]
def awB : Nod := .mk 11 [] [] []
def awS : Nod := .mk 15 [⟨styleN, fontN⟩] [] []
def awA : Nod := .mk 10 [⟨hrefN, [120]⟩] [] []
def awX : Nod := .mk 10 (hrefA [120]) [] [.mk 11 [] [] [.mk 12 [] [] [.mk 0 [] [116] []]]]
theorem aw1 : bitsN awB 2 = 3 := by decide +kernel
theorem aw2 : bitsN awS 3 = 2 := by decide +kernel
theorem aw3 : linkN awA [121] = [120] := by decide +kernel
theorem aw4 : linkN awB [121] = [121] := by decide +kernel
theorem aw5 : wrapN 3 [120] [.mk 0 [] [116] []] = [awX] := by decide +kernel
theorem aw6 : awX.count = 4 := by decide +kernel
theorem aw7 : awX.deep = 3 := by decide +kernel
theorem aw8 : decide (awB = awS) = false := by decide +kernel
theorem atts_blk {w : World} {B : Nat} {x : Att} (h : w.heap[B]? = some (.cells #[.string ⟨x.name.toArray⟩, .string ⟨x.value.toArray⟩] 48)) : AttsR false w (fun _ => True) (.slice (some ⟨B, 0, none⟩) 1 1) [x] :=
  ⟨_, 1, rfl, by simp, by decide, .inr ⟨B, 0, rfl, trivial, (Array.getElem?_eq_some_iff.1 h).1, (fun h => by cases h), fun i y hy => by
    cases i with
    | zero =>
      injection hy with e
      subst e
      exact ⟨encAtt _, rfl, rfl, fun j u hu => by rw [cell_of_heap h]; simpa [encAtt] using hu⟩
    | succ i => simp at hy⟩⟩
theorem awX_cells {h : Nat} {w : World} {S : Nat → Prop} {b o ac kc : Nat} {aa ka : Option Addr} (hn : NodAt h w S b o awX aa ac ka kc) : w.cell? ⟨b, o, none⟩ = some (.int .i64 10) ∧ w.cell? ⟨b, o + 1, none⟩ = some (.slice aa 1 ac) ∧ w.cell? ⟨b, o + 2, none⟩ = some (.string ⟨#[]⟩) ∧ w.cell? ⟨b, o + 3, none⟩ = some (.slice ka 1 kc) := ⟨hn.tag, hn.attrs, hn.text, hn.kids⟩
end Go.Proofs.Qw
namespace Go.Proofs.YtgeaijnelopkbaaDoor
open Go.RowKit
open Go.Proofs.Qw
attribute [local go_sem ↓] Go.wp_at_zero Go.wp_at_succ
theorem five_blocks (w : World) (o1 o2 o3 o4 o5 : Obj) : ∃ W5, ((((w.alloc o1).alloc o2).alloc o3).alloc o4).alloc o5 = W5 ∧ Below w.heap.size w W5 ∧ W5.heap[w.heap.size]? = some o1 ∧ W5.heap[w.heap.size + 1]? = some o2 ∧ W5.heap[w.heap.size + 1 + 1]? = some o3 ∧ W5.heap[w.heap.size + 1 + 1 + 1]? = some o4 ∧ W5.heap[w.heap.size + 1 + 1 + 1 + 1]? = some o5 :=
  ⟨_, rfl, (((((Below.refl _ _).alloc (Nat.le_refl _) _).alloc (by simp) _).alloc (by simp; omega) _).alloc (by simp; omega) _).alloc (by simp; omega) _,
    heap_old _ _ (heap_old _ _ (heap_old _ _ (heap_old _ _ (heap_new _ _ rfl)))), heap_old _ _ (heap_old _ _ (heap_old _ _ (heap_new _ _ (by simp)))), heap_old _ _ (heap_old _ _ (heap_new _ _ (by simp))), heap_old _ _ (heap_new _ _ (by simp)), heap_new _ _ (by simp)⟩
set_option maxRecDepth 100000 in
set_option maxHeartbeats 4000000 in
theorem awake17_any (HP : CssP) (w : World) (he : EnvT w) : Calls Tryd.prog 9 #[] w fun e w' => e = .returned (.bool true) ∧ Below w.heap.size w w' := by
  obtain ⟨W5, hW5, hB, h1, h2, h3, h4, h5⟩ := five_blocks w (.cells #[.int .i64 11, .slice none 0 0, .string ⟨#[]⟩, .slice none 0 0] 25) (.cells #[.string ⟨#[115, 116, 121, 108, 101]⟩, .string ⟨#[102, 111, 110, 116, 45, 119, 101, 105, 103, 104, 116, 58, 32, 110, 111, 114, 109, 97, 108]⟩] 48)
    (.cells #[.int .i64 15, .slice (some ⟨w.heap.size + 1, 0, none⟩) 1 1, .string ⟨#[]⟩, .slice none 0 0] 25) (.cells #[.string ⟨#[104, 114, 101, 102]⟩, .string ⟨#[120]⟩] 48) (.cells #[.int .i64 10, .slice (some ⟨w.heap.size + 1 + 1 + 1, 0, none⟩) 1 1, .string ⟨#[]⟩, .slice none 0 0] 25)
  have HW5 := Lib.hid hW5
  clear hW5
  have HB := Lib.hid hB
  have HE := Lib.hid (he.below hB)
  have H1 := Lib.hid h1
  have H3 := Lib.hid h3
  have H5 := Lib.hid h5
  have A3 : AttsR false W5 (fun _ => True) (.slice (some ⟨w.heap.size + 1, 0, none⟩) 1 1) awS.attrs := atts_blk (x := ⟨styleN, fontN⟩) h2
  have A5 : AttsR false W5 (fun _ => True) (.slice (some ⟨w.heap.size + 1 + 1 + 1, 0, none⟩) 1 1) awA.attrs := atts_blk (x := ⟨hrefN, [120]⟩) h4
  have C1 : Hid (∀ W, Below W5.heap.size W5 W → Calls Tryd.prog 12 #[.agg #[.int .i64 11, .slice none 0 0, .string ⟨#[]⟩, .slice none 0 0], .int .i64 2] W fun e w' => e = .returned (.int .i64 3) ∧ Below W.heap.size W w') := Lib.hid fun W hW => by
    have := nodBits_any HP awB (.slice none 0 0) none 0 0 2 W (fun _ => True) (SliceR.nil _ _ _ _ _ _) (HE.out.1.below hW) (by intro x hx; cases hx)
    rw [aw1] at this
    exact this
  have C2 : Hid (∀ W, Below W5.heap.size W5 W → Calls Tryd.prog 12 #[.agg #[.int .i64 15, .slice (some ⟨w.heap.size + 1, 0, none⟩) 1 1, .string ⟨#[]⟩, .slice none 0 0], .int .i64 3] W fun e w' => e = .returned (.int .i64 2) ∧ Below W.heap.size W w') := Lib.hid fun W hW => by
    have := nodBits_any HP awS _ none 0 0 3 W (fun _ => True) (A3.below (rdOf_stable _) hW) (HE.out.1.below hW) (by intro x hx; simp [awS, Nod.attrs] at hx; subst hx; decide)
    rw [aw2] at this
    exact this
  have C3 : Hid (∀ W, Below W5.heap.size W5 W → Calls Tryd.prog 14 #[.agg #[.int .i64 10, .slice (some ⟨w.heap.size + 1 + 1 + 1, 0, none⟩) 1 1, .string ⟨#[]⟩, .slice none 0 0], .string ⟨#[121]⟩] W fun e w' => e = .returned (.string ⟨#[120]⟩) ∧ Below W.heap.size W w') := Lib.hid fun W hW => by
    have := nodLink_any awA _ none 0 0 [121] W (fun _ => True) (A5.below (rdOf_stable _) hW) (HE.out.below hW) (by intro x hx; simp [awA, Nod.attrs] at hx; subst hx; decide)
    rw [aw3] at this
    exact this
  have C4 : Hid (∀ W, Below W5.heap.size W5 W → Calls Tryd.prog 14 #[.agg #[.int .i64 11, .slice none 0 0, .string ⟨#[]⟩, .slice none 0 0], .string ⟨#[121]⟩] W fun e w' => e = .returned (.string ⟨#[121]⟩) ∧ Below W.heap.size W w') := Lib.hid fun W hW => by
    have := nodLink_any awB (.slice none 0 0) none 0 0 [121] W (fun _ => True) (SliceR.nil _ _ _ _ _ _) (HE.out.below hW) (by intro x hx; cases hx)
    rw [aw4] at this
    exact this
  have C8 : Hid (∀ W, Below W5.heap.size W5 W → Calls Tryd.prog 19 #[.agg #[.int .i64 11, .slice none 0 0, .string ⟨#[]⟩, .slice none 0 0], .agg #[.int .i64 15, .slice (some ⟨w.heap.size + 1, 0, none⟩) 1 1, .string ⟨#[]⟩, .slice none 0 0]] W fun e w' => e = .returned (.bool false) ∧ Below W.heap.size W w') := Lib.hid fun W hW => by
    have := nodSame_any 0 awB awS (.slice none 0 0) (.slice none 0 0) _ (.slice none 0 0) W (fun _ => True) (fun _ => True) (SliceR.nil _ _ _ _ _ _) (SliceR.nil _ _ _ _ _ _) (A3.below (rdOf_stable _) hW) (SliceR.nil _ _ _ _ _ _)
    rw [aw8] at this
    exact this
  have CT : Hid (Calls Tryd.prog 29 #[.string ⟨#[116]⟩] W5 fun e w' => e = .returned (.agg #[.int .i64 0, .slice none 0 0, .string ⟨#[116]⟩, .slice none 0 0]) ∧ Below W5.heap.size W5 w') := Lib.hid (text_node [116] W5)
  have CW : Hid (∀ W : World, Below W5.heap.size W5 W → Calls Tryd.prog 28 #[.int .i64 3, .string ⟨#[120]⟩, .slice (some ⟨W.heap.size, 0, none⟩) 1 1] (W.alloc (.cells #[.int .i64 0, .slice none 0 0, .string ⟨#[116]⟩, .slice none 0 0] 25)) fun e w' => ∃ b o c h2 aa ac ka kc, e = .returned (.slice (some ⟨b, o, none⟩) 1 c) ∧ NodAt h2 w' (fun _ => True) b o awX aa ac ka kc ∧ 1 ≤ c ∧ c ≤ maxLen ∧ Below W5.heap.size W5 w') := Lib.hid fun W hW => by
    have hr : NodsR true 1 (W.alloc (.cells #[.int .i64 0, .slice none 0 0, .string ⟨#[116]⟩, .slice none 0 0] 25)) (fun _ => True) (.slice (some ⟨W.heap.size, 0, none⟩) 1 1) [.mk 0 [] [116] []] :=
      SliceR.one_new W [.int .i64 0, .slice none 0 0, .string ⟨#[116]⟩, .slice none 0 0] rfl ⟨_, _, rfl, SliceR.nil _ _ _ _ _ _, SliceR.nil _ _ _ _ _ _⟩ trivial
    refine (wrap_any 1 3 [120] _ _ true _ _ _ hr (Below.refl _ _) (by simp) (by simp [FitK, FitN])).mono ?_
    rintro e w' ⟨v', h', rfl, hv, hb⟩
    rw [aw5] at hv
    obtain ⟨a, c, rfl, hc, hm, hx⟩ := nods_shape (hv.read fun _ _ h => rdNod_read h)
    obtain ⟨b, o, aa, ac, ka, kc, h2, rfl, rfl, hn⟩ := hx 0 awX rfl
    rw [Nat.zero_mul, Nat.add_zero] at hn
    have hn' : NodAt h2 w' (fun _ => True) b o awX aa ac ka kc := ⟨hn.lt, hn.tag, hn.attrs, hn.text, hn.kids, hn.attrsR.stable (rdOf_stable _) (Keeps.refl _ _) (fun _ _ _ => trivial), hn.kidsR.stable (rdNod_stable _ _) (Keeps.refl _ _) (fun _ _ _ => trivial)⟩
    exact ⟨b, o, c, h2, aa, ac, ka, kc, rfl, hn', hc, hm, below_from (hW.alloc hW.size _) hb⟩
  clear A3 A5 h1 h2 h3 h4 h5 he
  have hB0 := hB.size
  clear hB
  go_enter Tryd.func9, Tryd.ntmps9
  go_upto_region 5 with (first
    | (go_at_call 29; rw [HW5.out]; refine CT.out.mono ?_; rintro e w6 ⟨rfl, hb6⟩)
    | (go_at_call 28; refine (CW.out _ hb6).mono ?_; rintro e w8 ⟨b, o, c, h2, aa, ac, ka, kc, rfl, hn, hc, hm, hb8⟩))
  have C6 : Hid (∀ W, Below w8.heap.size w8 W → Calls Tryd.prog 20 #[.agg #[.int .i64 10, .slice aa 1 ac, .string ⟨#[]⟩, .slice ka 1 kc]] W fun e w' => e = .returned (.int .i64 4) ∧ Below W.heap.size W w') := Lib.hid fun W hW => by
    have := count_any h2 awX _ _ W (fun _ => True) (hn.below hW).attrsR (hn.below hW).kidsR (by rw [aw6]; omega)
    rw [aw6] at this
    exact this
  have C7 : Hid (∀ W, Below w8.heap.size w8 W → Calls Tryd.prog 22 #[.agg #[.int .i64 10, .slice aa 1 ac, .string ⟨#[]⟩, .slice ka 1 kc]] W fun e w' => e = .returned (.int .i64 3) ∧ Below W.heap.size W w') := Lib.hid fun W hW => by
    have := deep_all h2 awX _ _ W (fun _ => True) (hn.below hW).attrsR (hn.below hW).kidsR (by rw [aw7]; omega)
    rw [aw7] at this
    exact this
  have HN := Lib.hid hn
  unfold maxLen at hm
  obtain ⟨p1, f1⟩ := blk (heap_below hb8 H1.out)
  clear hn
  go_wp2_with (first
    | (go_at_call 12; (with_reducible refine (C1.out _ hb8).mono ?_); rintro e w9 ⟨rfl, hb9⟩; have hx9 := below_from hb8 hb9; obtain ⟨p3, f3⟩ := blk (heap_below hx9 H3.out))
    | (go_at_call 12; (with_reducible refine (C2.out _ hx9).mono ?_); rintro e w10 ⟨rfl, hb10⟩; have hx10 := below_from hx9 hb10; have hy10 := below_from hb9 hb10; obtain ⟨p5, f5⟩ := blk (heap_below hx10 H5.out))
    | (go_at_call 14; (with_reducible refine (C3.out _ hx10).mono ?_); rintro e w11 ⟨rfl, hb11⟩; have hx11 := below_from hx10 hb11; have hy11 := below_from hy10 hb11; obtain ⟨p6, f6⟩ := blk (heap_below hx11 H1.out))
    | (go_at_call 14; (with_reducible refine (C4.out _ hx11).mono ?_); rintro e w12 ⟨rfl, hb12⟩; have hx12 := below_from hx11 hb12; have hy12 := below_from hy11 hb12; obtain ⟨n0, n1, n2, n3⟩ := awX_cells (HN.out.below hy12))
    | (go_at_call 20; (with_reducible refine (C6.out _ hy12).mono ?_); rintro e w13 ⟨rfl, hb13⟩; have hx13 := below_from hx12 hb13; have hy13 := below_from hy12 hb13; obtain ⟨m0, m1, m2, m3⟩ := awX_cells (HN.out.below hy13))
    | (go_at_call 22; (with_reducible refine (C7.out _ hy13).mono ?_); rintro e w14 ⟨rfl, hb14⟩; have hx14 := below_from hx13 hb14; obtain ⟨p7, f7⟩ := blk (heap_below hx14 H1.out); obtain ⟨p8, f8⟩ := blk (heap_below hx14 H3.out))
    | (go_at_call 19; (with_reducible refine (C8.out _ hx14).mono ?_); rintro e w15 ⟨rfl, hb15⟩))
  go_ret
  exact ⟨rfl, below_from HB.out (below_from hx14 hb15)⟩
end Go.Proofs.YtgeaijnelopkbaaDoor
namespace Go.Proofs.Qw
open Go.RowKit
theorem weighA_step {ats : List Att} {k : Nat} {x : Att} {L : Int} (h : ats.drop k = x :: ats.drop (k + 1)) (h0 : 0 ≤ L) : weighA (ats.drop k) L = weighA (ats.drop (k + 1)) (L - 1 - (x.name.length : Int) / 16 - (x.value.length : Int) / 16) := by rw [h, weighA, if_pos h0]
theorem weighK_step {ks : List Nod} {k : Nat} {x : Nod} {L : Int} (h : ks.drop k = x :: ks.drop (k + 1)) (h0 : 0 ≤ L) : weighK (ks.drop k) L = weighK (ks.drop (k + 1)) (weighN x L) := by rw [h, weighK, if_pos h0]
theorem sane_parts {n : Nod} (h : n.Sane) : n.text.length ≤ 281474976710656 ∧ n.kids.length ≤ 281474976710656 ∧ n.attrs.length ≤ 281474976710656 ∧ (∀ a ∈ n.attrs, a.name.length ≤ 281474976710656 ∧ a.value.length ≤ 281474976710656) ∧ Nod.Sanes n.kids := by
  obtain ⟨t, a, x, k⟩ := n
  rw [Nod.Sane] at h
  exact ⟨h.1.1, h.1.2.1, h.1.2.2.1, h.1.2.2.2, h.2⟩
theorem weigh_parts (n : Nod) (l : Int) : weighN n l = weighK n.kids (weighA n.attrs (l - 1 - (n.text.length : Int) / 16)) := by cases n; rw [weighN]; rfl
end Go.Proofs.Qw
namespace Go.Proofs.YtgeaijnelopkbaaDoor
open Go.RowKit
open Go.Proofs.Qw
attribute [local go_sem ↓] Go.wp_at_zero Go.wp_at_succ
def WeighAt (h : Nat) : Prop := ∀ (n : Nod) (a k : Value) (l : Int) (w : World) (S : Nat → Prop), AttsR false w S a n.attrs → NodsR false h w S k n.kids → 0 ≤ l → l ≤ 1000000000 → n.Sane →
    Calls Tryd.prog 33 #[nodV n a k, .int .i64 l] w fun e w' => e = .returned (.int .i64 (weighN n l)) ∧ Below w.heap.size w w'
set_option maxRecDepth 100000 in
set_option maxHeartbeats 4000000 in
theorem weigh_step (h : Nat) (ih : ∀ h', h = h' + 1 → WeighAt h') : WeighAt h := by
  intro n a kv l w S hA hK hl0 hl1 hs
  obtain ⟨la, lc, rfl, hac, ham, hax⟩ := atts_shape hA
  obtain ⟨ka, kc, rfl, hc, hm, hx⟩ := nods_shape hK
  obtain ⟨s1, s2, s3, s4, s5⟩ := sane_parts hs
  have HX := Lib.hid hx
  have HAX := Lib.hid hax
  have HI := Lib.hid ih
  have HS := Lib.hid (And.intro s4 s5)
  have HW0 := Lib.hid (weigh_parts n l)
  have HGE := Lib.hid (weighA_ge n.attrs (l - 1 - (n.text.length : Int) / 16) s4)
  have HLE := Lib.hid (weighA_le n.attrs (l - 1 - (n.text.length : Int) / 16))
  clear hA hK hx hax ih hs s4 s5
  unfold maxLen at hm ham
  obtain ⟨W1, hW1, hB, hz, hB1⟩ := one_node w (.int .i64 n.tag) (.slice la n.attrs.length lc) (.string ⟨n.text.toArray⟩) (.slice ka n.kids.length kc)
  have HZ := Lib.hid hz
  have HB1 := Lib.hid hB1
  clear hz
  obtain ⟨p1, f1⟩ := blk hB1
  clear hB1
  generalize hL0 : l - 1 - (n.text.length : Int) / 16 = L0 at *
  have hr0 : -100000000000000 ≤ L0 ∧ L0 ≤ 1000000000 := by omega
  have HE0 := Lib.hid hL0
  clear hL0
  go_enter Tryd.func33, Tryd.ntmps33
  go_wp2_with fail
  go_loopw [1, 5] (fun m i wr => ∃ (k : Nat) (L : Int), k ≤ n.attrs.length ∧ i = .int .i64 k ∧ m = .int .i64 L ∧ L ≤ 1000000000 ∧ -100000000000000 ≤ L ∧ Hid (weighA n.attrs L0 = weighA (n.attrs.drop k) L) ∧ Below W1.heap.size W1 wr) (fun _ i _ => n.attrs.length - (intOf i).toNat)
  case atStart => exact ⟨0, L0, Nat.zero_le _, rfl, by rw [HE0.out], hr0.2, hr0.1, Lib.hid rfl, Below.refl _ _⟩
  case round =>
    obtain ⟨k, L, hk, rfl, rfl, hL1, hL2, HE, hb⟩ := hrel
    obtain ⟨p2, f2⟩ := blk (heap_below hb HB1.out)
    have hs1 := hB.size
    have z0 := HZ.out
    by_cases hlt : k < n.attrs.length ∧ 0 ≤ L
    · obtain ⟨hlt, hL0⟩ := hlt
      obtain ⟨x, hl, hd⟩ := getOf n.attrs k hlt
      obtain ⟨b, o, rfl, hbz, c0, c1⟩ := HAX.out k x hl
      have hbw : Below w.heap.size w wr := hB.trans (hb.mono hs1)
      have c0 := (hbw.cell (p := ⟨b, o + k * 2, none⟩) hbz).trans c0
      have c1 := (hbw.cell (p := ⟨b, o + k * 2 + 1, none⟩) hbz).trans c1
      have hx := HS.out.1 x (List.mem_of_getElem? hl)
      have HE2 := Lib.hid (HE.out.trans (weighA_step hd hL0))
      have hbs := hb.size
      obtain ⟨q1, q2⟩ := hx
      clear hd hl HE
      go_wp2_with fail
      go_region
      all_goals go_wp2_with fail
      all_goals
        go_roundw
        case rel => exact ⟨k + 1, L - 1 - (x.name.length : Int) / 16 - (x.value.length : Int) / 16, hlt, by go_num, rfl, by omega, by omega, HE2, hb.drew⟩
        case measure => simp [intOf]; omega
    · have hor : (k < n.attrs.length ∧ L < 0) ∨ k = n.attrs.length := by omega
      have HEnd : Hid (weighA n.attrs L0 = L) := Lib.hid (by
        rw [HE.out]
        rcases hor with ⟨_, h2⟩ | rfl
        · exact weighA_neg h2
        · rw [List.drop_length]; rfl)
      have HBw := Lib.hid hb
      clear HE hlt
      rcases hor with ⟨h1, h2⟩ | rfl
      all_goals
        clear hb
        have hb := HBw.out
        go_wp2_with fail
        go_loopw [1, 6] (fun m i wq => ∃ (k : Nat) (L2 : Int), k ≤ n.kids.length ∧ i = .int .i64 k ∧ m = .int .i64 L2 ∧ L2 ≤ 1000000000 ∧ -100000000000000 ≤ L2 ∧ Hid (weighK n.kids L = weighK (n.kids.drop k) L2) ∧ Below W1.heap.size W1 wq) (fun _ i _ => n.kids.length - (intOf i).toNat)
        case atStart => exact ⟨0, L, Nat.zero_le _, rfl, rfl, hL1, hL2, Lib.hid rfl, HBw.out⟩
        case round =>
          clear hb p2 f2
          obtain ⟨k2, L2, hk2, rfl, rfl, hM1, hM2, HK, hb⟩ := hrel
          obtain ⟨p2, f2⟩ := blk (heap_below hb HB1.out)
          by_cases hlt : k2 < n.kids.length ∧ 0 ≤ L2
          · obtain ⟨hlt, hL20⟩ := hlt
            obtain ⟨x, hl, hd⟩ := getOf n.kids k2 hlt
            obtain ⟨b, o, xa, xc, ya, yc, h', rfl, rfl, hA⟩ := HX.out k2 x hl
            have hbw : Below w.heap.size w wr := hB.trans (hb.mono hs1)
            have hsx := Nod.sanes_mem HS.out.2 (List.mem_of_getElem? hl)
            have HE2 := Lib.hid (HK.out.trans (weighK_step hd hL20))
            have g1 := weighN_ge x L2 hL20 hsx
            have g2 := weighN_le x L2
            have HW : Hid (∀ W, Below w.heap.size w W → Calls Tryd.prog 33 #[nodV x (.slice xa x.attrs.length xc) (.slice ya x.kids.length yc), .int .i64 L2] W fun e w' => e = .returned (.int .i64 (weighN x L2)) ∧ Below W.heap.size W w') :=
              Lib.hid fun W hW => HI.out h' rfl x _ _ L2 W S (hA.below hW).attrsR (hA.below hW).kidsR hL20 hM1 hsx
            obtain ⟨_, c0, c1, c2, c3, _, _⟩ := hA.below hbw
            have hbs := hb.size
            clear hA hd hl HK hsx
            go_wp2_with (go_at_call 33; refine (HW.out _ (by go_grown)).mono ?_; rintro e w2 ⟨rfl, hb2⟩)
            all_goals
              go_roundw
              case rel => exact ⟨k2 + 1, weighN x L2, hlt, by go_num, rfl, by omega, by omega, HE2, below_from hb hb2⟩
              case measure => simp [intOf]; omega
          · have hor : (k2 < n.kids.length ∧ L2 < 0) ∨ k2 = n.kids.length := by omega
            have HF : Hid (weighN n l = L2) := Lib.hid (by
              rw [HW0.out, HEnd.out, HK.out]
              rcases hor with ⟨_, h2⟩ | rfl
              · exact weighK_neg h2
              · rw [List.drop_length, weighK])
            have HB := Lib.hid (hB.trans (hb.mono hB.size))
            clear HK hlt hb
            rcases hor with ⟨h1, h2⟩ | rfl
            all_goals
              go_wp2_with fail
              go_ret
              exact ⟨by rw [HF.out]; rfl, HB.out⟩
theorem weigh_all : ∀ h, WeighAt h
  | 0 => weigh_step 0 (fun _ e => by cases e)
  | h + 1 => weigh_step (h + 1) (fun h' e => by cases e; exact weigh_all h)
end Go.Proofs.YtgeaijnelopkbaaDoor
namespace Go.Proofs.YtgeaijnelopkbaaDoor
open Go.RowKit
open Go.Proofs.Qw
attribute [local go_sem ↓] Go.wp_at_zero Go.wp_at_succ
set_option maxHeartbeats 1000000 in
theorem heavy_any (h : Nat) (n : Nod) (a k : Value) (w w0 : World) (S : Nat → Prop) (hA : AttsR false w0 S a n.attrs) (hK : NodsR false h w0 S k n.kids) (h0 : Below w0.heap.size w0 w) (hs : n.Sane) :
    Calls Tryd.prog 8 #[nodV n a k] w fun e w' => e = .returned (.bool (decide (weighN n 3000 < 0))) ∧ Below w.heap.size w w' := by
  have HC : Hid (∀ W, Below w0.heap.size w0 W → Calls Tryd.prog 33 #[nodV n a k, .int .i64 3000] W fun e w' => e = .returned (.int .i64 (weighN n 3000)) ∧ Below W.heap.size W w') :=
    Lib.hid fun W hW => weigh_all h n a k 3000 W S (hA.below (rdOf_stable _) hW) (hK.below (rdNod_stable _ _) hW) (by omega) (by omega) hs
  obtain ⟨la, lc, rfl⟩ := hA.slice
  obtain ⟨ka, kc, rfl⟩ := hK.slice
  obtain ⟨W1, hW1, hB, hz, hB1⟩ := one_node w (.int .i64 n.tag) (.slice la n.attrs.length lc) (.string ⟨n.text.toArray⟩) (.slice ka n.kids.length kc)
  have HB := Lib.hid hB
  have hw := below_from h0 hB
  obtain ⟨p1, f1⟩ := blk hB1
  clear hA hK hs hz hB1
  unfold nodV at *
  generalize weighN n 3000 = q at *
  go_enter Tryd.func8, Tryd.ntmps8
  go_wp2_with (go_at_call 33; refine (HC.out _ hw).mono ?_; rintro e w2 ⟨rfl, hb2⟩)
  go_ret
  exact ⟨rfl, below_from HB.out hb2⟩
set_option maxHeartbeats 1000000 in
theorem heavies_any (h : Nat) (v : Value) (l : List Nod) (w w0 : World) (S : Nat → Prop) (hv : NodsR false h w0 S v l) (h0 : Below w0.heap.size w0 w) (hs : Nod.Sane (.mk 0 [] [] l)) :
    Calls Tryd.prog 27 #[v] w fun e w' => e = .returned (.bool (decide (1000 < l.length) || decide (weighN (.mk 0 [] [] l) 3000 < 0))) ∧ Below w.heap.size w w' := by
  have HC : Hid (∀ W, Below w0.heap.size w0 W → Calls Tryd.prog 8 #[.agg #[.int .i64 0, .slice none 0 0, .string ⟨#[]⟩, v]] W fun e w' => e = .returned (.bool (decide (weighN (.mk 0 [] [] l) 3000 < 0))) ∧ Below W.heap.size W w') :=
    Lib.hid fun W hW => heavy_any h (.mk 0 [] [] l) (.slice none 0 0) v W w0 S (SliceR.nil _ _ _ _ _ _) hv hW hs
  obtain ⟨a, c, rfl, hc, hm, _⟩ := nods_shape hv
  unfold maxLen at hm
  clear hv hs
  by_cases hbig : 1000 < l.length
  · have hd : decide (1000 < (l.length : Int)) = true := by simp; omega
    have HD : Hid (decide (1000 < l.length) = true) := Lib.hid (by simpa using hbig)
    go_enter Tryd.func27, Tryd.ntmps27
    go_wp2_with fail
    go_ret
    rw [HD.out]
    exact ⟨rfl, Below.refl _ _⟩
  · have hd : decide (1000 < (l.length : Int)) = false := by simp; omega
    have HD : Hid (decide (1000 < l.length) = false) := Lib.hid (by simpa using hbig)
    go_enter Tryd.func27, Tryd.ntmps27
    go_wp2_with (go_at_call 8; refine (HC.out _ h0).mono ?_; rintro e w2 ⟨rfl, hb2⟩)
    go_ret
    rw [HD.out]
    exact ⟨rfl, hb2⟩
end Go.Proofs.YtgeaijnelopkbaaDoor
namespace Go.Proofs.Qw
open Go.RowKit Go.Proofs.YtgeaijnelopkbaaDoor
theorem linkN_eq (n : Nod) (g : List UInt8) : linkN n g = if n.tag = 10 ∧ targetF ((attrF n.attrs hrefN).getD []) = true then (attrF n.attrs hrefN).getD [] else g := by
  unfold linkN
  cases attrF n.attrs hrefN with
  | none =>
    have : targetF [] = false := by decide +kernel
    rw [if_neg (fun h => by rw [Option.getD_none, this] at h; cases h.2)]
  | some h => rfl
end Go.Proofs.Qw
namespace Go.Proofs.YtgeaijnelopkbaaDoor
open Go.RowKit
open Go.Proofs.Qw
attribute [local go_sem ↓] Go.wp_at_zero Go.wp_at_succ
set_option maxHeartbeats 1000000 in
theorem refFind_any (v : Value) (d : List Att) (nm : List UInt8) (w : World) (S : Nat → Prop) (h : AttsR false w S v d) :
    Calls Tryd.prog 57 #[v, .string ⟨nm.toArray⟩] w fun e w' => ∃ z, e = .returned (.int .i64 z) ∧ PlaceA d nm z ∧ Below w.heap.size w w' := by
  obtain ⟨a, c, rfl, hc, hm, hx⟩ := atts_shape h
  have HX := Lib.hid hx
  clear hx h
  unfold maxLen at hm
  go_enter Tryd.func57, Tryd.ntmps57
  go_wp2_with fail
  go_loopw [5] (fun i wr => ∃ k : Nat, k ≤ d.length ∧ i = .int .i64 k ∧ Hid (attrF d nm = attrF (d.drop k) nm) ∧ Below w.heap.size w wr) (fun i _ => d.length - (intOf i).toNat)
  case atStart => exact ⟨0, Nat.zero_le _, rfl, Lib.hid rfl, Below.refl _ _⟩
  case round =>
    obtain ⟨k, hk, rfl, HG, hb⟩ := hrel
    by_cases hlt : k < d.length
    · obtain ⟨x, hl, hd⟩ := getOf d k hlt
      obtain ⟨b, o, rfl, hbz, c0, c1⟩ := HX.out k x hl
      have c0 := (hb.cell (p := ⟨b, o + k * 2, none⟩) hbz).trans c0
      have HE : Hid (attrF d nm = if x.name = nm then some x.value else attrF (d.drop (k + 1)) nm) := Lib.hid (by rw [HG.out, hd, attrF_cons])
      have HL := Lib.hid hl
      have i0 : (0 : Int) ≤ (k : Int) := Int.natCast_nonneg _
      have i1 : (k : Int) < (d.length : Int) := by omega
      clear hd hl c1
      by_cases hn : x.name = nm
      · have HN := Lib.hid hn
        have hq : (x.name == nm) = true := by simp [hn]
        clear hn
        go_wp2_with fail
        go_ret
        exact ⟨_, rfl, .inr ⟨k, x, rfl, HL.out, HE.out.trans (if_pos HN.out)⟩, hb⟩
      · have HN := Lib.hid hn
        have hq : (x.name == nm) = false := by simp [hn]
        go_wp2_with fail
        go_roundw
        case rel => exact ⟨k + 1, hlt, by go_num, Lib.hid (HE.out.trans (if_neg HN.out)), hb⟩
        case measure => simp [intOf]; omega
    · obtain rfl : k = d.length := by omega
      go_wp2_with fail
      go_ret
      refine ⟨_, rfl, .inl ⟨rfl, ?_⟩, hb⟩
      rw [HG.out, List.drop_eq_nil_of_le (Nat.le_refl _)]
      rfl
set_option maxHeartbeats 1000000 in
theorem refValue17_any (n : Nod) (nm : List UInt8) (a : Value) (ka : Option Addr) (km kc : Nat) (w w0 : World) (S : Nat → Prop) (hA : AttsR false w0 S a n.attrs) (h0 : Below w0.heap.size w0 w) :
    Calls Tryd.prog 37 #[nodV n a (.slice ka km kc), .string ⟨nm.toArray⟩] w fun e w' => e = .returned (.string ⟨((attrF n.attrs nm).getD []).toArray⟩) ∧ Below w.heap.size w w' := by
  have HC : Hid (∀ W, Below w0.heap.size w0 W → Calls Tryd.prog 57 #[a, .string ⟨nm.toArray⟩] W fun e w' => ∃ z, e = .returned (.int .i64 z) ∧ PlaceA n.attrs nm z ∧ Below W.heap.size W w') := Lib.hid fun W hW => refFind_any a n.attrs nm W S (hA.below (rdOf_stable _) hW)
  obtain ⟨la, lc, rfl, hc, hm, hx⟩ := atts_shape hA
  have HX := Lib.hid hx
  obtain ⟨W1, hW1, hB, hz, hB1⟩ := one_node w (.int .i64 n.tag) (.slice la n.attrs.length lc) (.string ⟨n.text.toArray⟩) (.slice ka km kc)
  have HB1 := Lib.hid hB1
  have HB := Lib.hid hB
  have hw := below_from h0 hB
  obtain ⟨p1, f1⟩ := blk hB1
  clear hx hA hz hB1
  unfold maxLen at hm
  unfold nodV
  go_enter Tryd.func37, Tryd.ntmps37
  go_upto_if 11 with (go_at_call 57; refine (HC.out _ hw).mono ?_; rintro e w2 ⟨z, rfl, hz, hb2⟩; have HZ := Lib.hid hz; have HB2 := Lib.hid hb2; obtain ⟨p2, f2⟩ := blk (heap_below hb2 HB1.out); clear hz hb2)
  obtain ⟨rfl, he⟩ | ⟨k, x, rfl, hl, he⟩ := HZ.out
  · have HE := Lib.hid he
    clear he
    go_wp2_with fail
    go_ret
    rw [HE.out]
    exact ⟨rfl, below_from HB.out HB2.out⟩
  · have HE := Lib.hid he
    obtain ⟨b, o, rfl, hbz, c0, c1⟩ := HX.out k x hl
    have hlt : k < n.attrs.length := (List.getElem?_eq_some_iff.1 hl).1
    have c1 := ((below_from hw HB2.out).cell (p := ⟨b, o + k * 2 + 1, none⟩) hbz).trans c1
    have i0 : (0 : Int) ≤ (k : Int) := Int.natCast_nonneg _
    have i1 : (k : Int) < (n.attrs.length : Int) := by omega
    clear he hl c0
    go_wp2_with fail
    go_ret
    rw [HE.out]
    exact ⟨rfl, below_from HB.out HB2.out⟩
def RefP : Prop := ∀ (s : ByteArray) (w : World), s.size ≤ 50000 → Calls Tryd.prog 36 #[.string s] w fun e w' => e = .returned (.tuple #[.int .i64 (cssParse s.data.toList).1, .int .i64 (cssParse s.data.toList).2]) ∧ Below w.heap.size w w'
set_option maxRecDepth 100000 in
set_option maxHeartbeats 2000000 in
theorem rsays_any (HP : RefP) (n : Nod) (a : Value) (ka : Option Addr) (km kc : Nat) (w : World) (S : Nat → Prop) (hA : AttsR false w S a n.attrs) (hsz : ∀ x ∈ n.attrs, x.value.length ≤ 50000) :
    Calls Tryd.prog 11 #[nodV n a (.slice ka km kc)] w fun e w' => e = .returned (.tuple #[.int .i64 (saysN n).1, .int .i64 (saysN n).2]) ∧ Below w.heap.size w w' := by
  obtain ⟨la, lc, rfl⟩ := hA.slice
  obtain ⟨W1, hW1, hB, hz, hB1⟩ := one_node w (.int .i64 n.tag) (.slice la n.attrs.length lc) (.string ⟨n.text.toArray⟩) (.slice ka km kc)
  have HG : Hid (∀ W, Below w.heap.size w W → Calls Tryd.prog 37 #[.agg #[.int .i64 n.tag, .slice la n.attrs.length lc, .string ⟨n.text.toArray⟩, .slice ka km kc], .string ⟨#[115, 116, 121, 108, 101]⟩] W fun e w' => e = .returned (.string ⟨((attrF n.attrs styleN).getD []).toArray⟩) ∧ Below W.heap.size W w') :=
    Lib.hid fun W hW => refValue17_any n styleN _ ka km kc W w S hA hW
  have HC : Hid (∀ W, Calls Tryd.prog 36 #[.string ⟨((attrF n.attrs styleN).getD []).toArray⟩] W fun e w' => e = .returned (.tuple #[.int .i64 (cssParse ((attrF n.attrs styleN).getD [])).1, .int .i64 (cssParse ((attrF n.attrs styleN).getD [])).2]) ∧ Below W.heap.size W w') :=
    Lib.hid fun W => HP _ W (by have := attrF_size (nm := styleN) hsz; simpa [ByteArray.size] using this)
  have HS : Hid (saysN n = if n.tag = 11 then (1, 0) else if n.tag = 12 then (2, 0) else if n.tag = 13 then (4, 0) else if n.tag = 14 then (8, 0) else if n.tag = 15 then cssParse ((attrF n.attrs styleN).getD []) else (0, 0)) := Lib.hid rfl
  have HB := Lib.hid hB
  obtain ⟨p1, f1⟩ := blk hB1
  clear hA hsz hz
  unfold nodV
  generalize n.attrs.length = m at *
  generalize cssParse ((attrF n.attrs styleN).getD []) = r at *
  generalize ((attrF n.attrs styleN).getD []).toArray = y at *
  generalize n.tag = t at *
  go_enter Tryd.func11, Tryd.ntmps11
  by_cases h1 : t = 11
  · subst h1
    go_wp2_with fail
    go_ret2
    rw [HS.out]
    exact ⟨rfl, HB.out⟩
  by_cases h2 : t = 12
  · subst h2
    go_wp2_with fail
    go_ret2
    rw [HS.out]
    exact ⟨rfl, HB.out⟩
  by_cases h3 : t = 13
  · subst h3
    go_wp2_with fail
    go_ret2
    rw [HS.out]
    exact ⟨rfl, HB.out⟩
  by_cases h4 : t = 14
  · subst h4
    go_wp2_with fail
    go_ret2
    rw [HS.out]
    exact ⟨rfl, HB.out⟩
  by_cases h5 : t = 15
  · subst h5
    go_wp2_with (first
      | (go_at_call 37; refine (HG.out _ HB.out).mono ?_; rintro e w2 ⟨rfl, hb2⟩; have HB2 := Lib.hid (below_from HB.out hb2); clear hb2)
      | (go_at_call 36; refine (HC.out _).mono ?_; rintro e w3 ⟨rfl, hb3⟩))
    go_ret2
    rw [HS.out]
    exact ⟨rfl, below_from HB2.out hb3⟩
  · have HT := Lib.hid (⟨h1, h2, h3, h4, h5⟩ : ¬ t = 11 ∧ ¬ t = 12 ∧ ¬ t = 13 ∧ ¬ t = 14 ∧ ¬ t = 15)
    go_wp2_with fail
    go_ret2
    obtain ⟨g1, g2, g3, g4, g5⟩ := HT.out
    rw [HS.out, if_neg g1, if_neg g2, if_neg g3, if_neg g4, if_neg g5]
    exact ⟨rfl, HB.out⟩
set_option maxHeartbeats 1000000 in
theorem rbits_any (HP : RefP) (n : Nod) (a : Value) (ka : Option Addr) (km kc : Nat) (g : Int) (w : World) (S : Nat → Prop) (hA : AttsR false w S a n.attrs) (hsz : ∀ x ∈ n.attrs, x.value.length ≤ 50000) :
    Calls Tryd.prog 13 #[nodV n a (.slice ka km kc), .int .i64 g] w fun e w' => e = .returned (.int .i64 (bitsN n g)) ∧ Below w.heap.size w w' := by
  obtain ⟨la, lc, rfl⟩ := hA.slice
  obtain ⟨W1, hW1, hB, hz, hB1⟩ := one_node w (.int .i64 n.tag) (.slice la n.attrs.length lc) (.string ⟨n.text.toArray⟩) (.slice ka km kc)
  have HC := Lib.hid (rsays_any HP n _ ka km kc W1 S (hA.below (rdOf_stable _) hB) hsz)
  have HQ : Hid (bitsN n g = bits .or .i64 (bits .andNot .i64 g (saysN n).2) (saysN n).1) := Lib.hid rfl
  have HB := Lib.hid hB
  obtain ⟨p1, f1⟩ := blk hB1
  clear hA hsz hz hB1
  unfold nodV at *
  generalize n.attrs.length = m at *
  generalize saysN n = r at *
  generalize bitsN n g = q at *
  go_enter Tryd.func13, Tryd.ntmps13
  go_wp2_with (go_at_call 11; refine HC.out.mono ?_; rintro e w2 ⟨rfl, hb2⟩)
  go_ret
  rw [HQ.out]
  exact ⟨rfl, below_from HB.out hb2⟩
set_option maxHeartbeats 1000000 in
theorem rlink_any (n : Nod) (a : Value) (ka : Option Addr) (km kc : Nat) (g : List UInt8) (w : World) (S : Nat → Prop) (hA : AttsR false w S a n.attrs) (hsz : ∀ x ∈ n.attrs, x.value.length ≤ 50000) :
    Calls Tryd.prog 15 #[nodV n a (.slice ka km kc), .string ⟨g.toArray⟩] w fun e w' => e = .returned (.string ⟨(linkN n g).toArray⟩) ∧ Below w.heap.size w w' := by
  obtain ⟨la, lc, rfl⟩ := hA.slice
  obtain ⟨W1, hW1, hB, hz, hB1⟩ := one_node w (.int .i64 n.tag) (.slice la n.attrs.length lc) (.string ⟨n.text.toArray⟩) (.slice ka km kc)
  have HG : Hid (∀ W, Below w.heap.size w W → Calls Tryd.prog 37 #[.agg #[.int .i64 n.tag, .slice la n.attrs.length lc, .string ⟨n.text.toArray⟩, .slice ka km kc], .string ⟨#[104, 114, 101, 102]⟩] W fun e w' => e = .returned (.string ⟨((attrF n.attrs hrefN).getD []).toArray⟩) ∧ Below W.heap.size W w') :=
    Lib.hid fun W hW => refValue17_any n hrefN _ ka km kc W w S hA hW
  have HC : Hid (∀ W, Calls Tryd.prog 38 #[.string ⟨((attrF n.attrs hrefN).getD []).toArray⟩] W fun e w' => e = .returned (.bool (targetF ((attrF n.attrs hrefN).getD []))) ∧ Below W.heap.size W w') :=
    Lib.hid fun W => refTarget_any _ W (by have := attrF_size (nm := hrefN) hsz; simp [ByteArray.size]; omega)
  have HL := Lib.hid (linkN_eq n g)
  have HB := Lib.hid hB
  have HB1 := Lib.hid hB1
  obtain ⟨p1, f1⟩ := blk hB1
  clear hA hsz hz hB1
  unfold nodV
  generalize linkN n g = q at *
  generalize (attrF n.attrs hrefN).getD [] = f at *
  generalize n.attrs.length = m at *
  generalize n.tag = t at *
  by_cases h1 : t = 10
  · subst h1
    generalize hr : targetF f = r at *
    have HR := Lib.hid hr
    clear hr
    cases r with
    | false =>
      go_enter Tryd.func15, Tryd.ntmps15
      go_wp2_with (first
        | (go_at_call 37; refine (HG.out _ HB.out).mono ?_; rintro e w2 ⟨rfl, hb2⟩; have hx2 := below_from HB.out hb2)
        | (go_at_call 38; refine (HC.out _).mono ?_; rintro e w3 ⟨rfl, hb3⟩))
      go_ret
      rw [HL.out]
      exact ⟨by simp [HR.out], below_from hx2 hb3⟩
    | true =>
      go_enter Tryd.func15, Tryd.ntmps15
      go_upto_region 2 with (first
        | (go_at_call 37; refine (HG.out _ HB.out).mono ?_; rintro e w2 ⟨rfl, hb2⟩; have hx2 := below_from HB.out hb2)
        | (go_at_call 38; refine (HC.out _).mono ?_; rintro e w3 ⟨rfl, hb3⟩; have hx3 := below_from hx2 hb3; obtain ⟨p3, f3⟩ := blk (heap_below (hb2.trans (hb3.mono hb2.size)) HB1.out)))
      go_wp2_with (go_at_call 37; refine (HG.out _ hx3).mono ?_; rintro e w4 ⟨rfl, hb4⟩)
      go_ret
      rw [HL.out]
      exact ⟨by simp [HR.out], below_from hx3 hb4⟩
  · have HN := Lib.hid h1
    go_enter Tryd.func15, Tryd.ntmps15
    go_wp2_with fail
    go_ret
    rw [HL.out]
    exact ⟨by simp [HN.out], HB.out⟩
end Go.Proofs.YtgeaijnelopkbaaDoor
namespace Go.Proofs.Qw
open Go.RowKit Go.Proofs.YtgeaijnelopkbaaDoor
theorem light_vals {n : Nod} (h : ¬ weighN n 3000 < 0) : ∀ x ∈ n.attrs, x.value.length ≤ 50000 := by
  have hm := weighN_is n 3000 (by omega)
  have h1 : n.mass ≤ 3000 := by omega
  obtain ⟨t, a, x, k⟩ := n
  obtain ⟨_, _, _, _, h2⟩ := light_node h1
  intro y hy
  have := (h2 y hy).2
  omega
end Go.Proofs.Qw
namespace Go.Proofs.YtgeaijnelopkbaaDoor
open Go.RowKit
open Go.Proofs.Qw
attribute [local go_sem ↓] Go.wp_at_zero Go.wp_at_succ
set_option maxRecDepth 100000 in
set_option maxHeartbeats 4000000 in
theorem valueSays_any (HP : CssP) (RP : RefP) (h : Nat) (n : Nod) (a k : Value) (g : Int) (l : List UInt8) (w : World) (S : Nat → Prop) (hA : AttsR false w S a n.attrs) (hK : NodsR false h w S k n.kids) (hs : n.Sane) (he : EnvT w) :
    Calls Tryd.prog 3 #[nodV n a k, .int .i64 g, .string ⟨l.toArray⟩] w fun e w' => e = .returned (.bool true) ∧ Below w.heap.size w w' := by
  have CH : Hid (∀ W, Below w.heap.size w W → Calls Tryd.prog 8 #[nodV n a k] W fun e w' => e = .returned (.bool (decide (weighN n 3000 < 0))) ∧ Below W.heap.size W w') := Lib.hid fun W hW => heavy_any h n a k W w S hA hK hW hs
  have CA : Hid (∀ W, Below w.heap.size w W → Calls Tryd.prog 9 #[] W fun e w' => e = .returned (.bool true) ∧ Below W.heap.size W w') := Lib.hid fun W hW => awake17_any HP W (he.below hW)
  obtain ⟨la, lc, rfl⟩ := hA.slice
  obtain ⟨ka, kc, rfl⟩ := hK.slice
  obtain ⟨W1, hW1, hB, hz, hB1⟩ := one_node w (.int .i64 n.tag) (.slice la n.attrs.length lc) (.string ⟨n.text.toArray⟩) (.slice ka n.kids.length kc)
  have H1 := Lib.hid hB1
  have HB := Lib.hid hB
  obtain ⟨p1, f1⟩ := blk hB1
  by_cases hv : weighN n 3000 < 0
  · have HV : Hid (decide (weighN n 3000 < 0) = true) := Lib.hid (by simpa using hv)
    rw [HV.out] at CH
    clear hA hK hs he hv hz hB1
    unfold nodV at *
    go_enter Tryd.func3, Tryd.ntmps3
    go_wp2_with (first
      | (go_at_call 8; refine (CH.out _ HB.out).mono ?_; rintro e w2 ⟨rfl, hb2⟩; have hx2 := below_from HB.out hb2)
      | (go_at_call 9; refine (CA.out _ hx2).mono ?_; rintro e w3 ⟨rfl, hb3⟩))
    go_ret
    exact ⟨rfl, below_from hx2 hb3⟩
  have HV : Hid (decide (weighN n 3000 < 0) = false) := Lib.hid (by simpa using hv)
  rw [HV.out] at CH
  have hsz := light_vals hv
  have C1 : Hid (∀ W, Below w.heap.size w W → Calls Tryd.prog 10 #[nodV n (.slice la n.attrs.length lc) (.slice ka n.kids.length kc)] W fun e w' => e = .returned (.tuple #[.int .i64 (saysN n).1, .int .i64 (saysN n).2]) ∧ Below W.heap.size W w') := Lib.hid fun W hW => nodSays_any HP n _ _ _ _ W S (hA.below (rdOf_stable _) hW) (he.1.below hW) (fun x hx => by have := hsz x hx; omega)
  have C2 : Hid (∀ W, Below w.heap.size w W → Calls Tryd.prog 11 #[nodV n (.slice la n.attrs.length lc) (.slice ka n.kids.length kc)] W fun e w' => e = .returned (.tuple #[.int .i64 (saysN n).1, .int .i64 (saysN n).2]) ∧ Below W.heap.size W w') := Lib.hid fun W hW => rsays_any RP n _ _ _ _ W S (hA.below (rdOf_stable _) hW) hsz
  have C3 : Hid (∀ W, Below w.heap.size w W → Calls Tryd.prog 12 #[nodV n (.slice la n.attrs.length lc) (.slice ka n.kids.length kc), .int .i64 g] W fun e w' => e = .returned (.int .i64 (bitsN n g)) ∧ Below W.heap.size W w') := Lib.hid fun W hW => nodBits_any HP n _ _ _ _ g W S (hA.below (rdOf_stable _) hW) (he.1.below hW) (fun x hx => by have := hsz x hx; omega)
  have C4 : Hid (∀ W, Below w.heap.size w W → Calls Tryd.prog 13 #[nodV n (.slice la n.attrs.length lc) (.slice ka n.kids.length kc), .int .i64 g] W fun e w' => e = .returned (.int .i64 (bitsN n g)) ∧ Below W.heap.size W w') := Lib.hid fun W hW => rbits_any RP n _ _ _ _ g W S (hA.below (rdOf_stable _) hW) hsz
  have C5 : Hid (∀ W, Below w.heap.size w W → Calls Tryd.prog 14 #[nodV n (.slice la n.attrs.length lc) (.slice ka n.kids.length kc), .string ⟨l.toArray⟩] W fun e w' => e = .returned (.string ⟨(linkN n l).toArray⟩) ∧ Below W.heap.size W w') := Lib.hid fun W hW => nodLink_any n _ _ _ _ l W S (hA.below (rdOf_stable _) hW) (he.below hW) (fun x hx => by have := hsz x hx; omega)
  have C6 : Hid (∀ W, Below w.heap.size w W → Calls Tryd.prog 15 #[nodV n (.slice la n.attrs.length lc) (.slice ka n.kids.length kc), .string ⟨l.toArray⟩] W fun e w' => e = .returned (.string ⟨(linkN n l).toArray⟩) ∧ Below W.heap.size W w') := Lib.hid fun W hW => rlink_any n _ _ _ _ l W S (hA.below (rdOf_stable _) hW) hsz
  clear hA hK hs he hv hz hB1 hsz
  unfold nodV at *
  generalize saysN n = r at *
  generalize bitsN n g = q at *
  generalize linkN n l = y at *
  by_cases hlen : 1000 < l.length
  · have hd : decide (1000 < (l.length : Int)) = true := by simp; omega
    go_enter Tryd.func3, Tryd.ntmps3
    go_wp2_with (first
      | (go_at_call 8; refine (CH.out _ HB.out).mono ?_; rintro e w2 ⟨rfl, hb2⟩; have hx2 := below_from HB.out hb2)
      | (go_at_call 9; refine (CA.out _ hx2).mono ?_; rintro e w3 ⟨rfl, hb3⟩))
    go_ret
    exact ⟨rfl, below_from hx2 hb3⟩
  · have hd : decide (1000 < (l.length : Int)) = false := by simp; omega
    go_enter Tryd.func3, Tryd.ntmps3
    go_upto_region 5 with (first
      | (go_at_call 8; refine (CH.out _ HB.out).mono ?_; rintro e w2 ⟨rfl, hb2⟩; have hx2 := below_from HB.out hb2; obtain ⟨p2, f2⟩ := blk (heap_below hb2 H1.out))
      | (go_at_call 10; refine (C1.out _ hx2).mono ?_; rintro e w3 ⟨rfl, hb3⟩; have hx3 := below_from hx2 hb3; have hy3 := below_from hb2 hb3; obtain ⟨p3, f3⟩ := blk (heap_below hy3 H1.out))
      | (go_at_call 11; refine (C2.out _ hx3).mono ?_; rintro e w4 ⟨rfl, hb4⟩; have hx4 := below_from hx3 hb4; have hy4 := below_from hy3 hb4; obtain ⟨p4, f4⟩ := blk (heap_below hy4 H1.out)))
    have hxd : Below w.heap.size w w4.drew := hx4.drew
    have hyd : Below W1.heap.size W1 w4.drew := hy4.drew
    clear p1 f1 p2 f2 p3 f3
    go_region_held3 (fun w' => w'.cell? ⟨w.heap.size, 0, none⟩ = some (.int .i64 n.tag) ∧ w'.cell? ⟨w.heap.size, 1, none⟩ = some (.slice la n.attrs.length lc) ∧ w'.cell? ⟨w.heap.size, 2, none⟩ = some (.string ⟨n.text.toArray⟩) ∧ w'.cell? ⟨w.heap.size, 3, none⟩ = some (.slice ka n.kids.length kc)) (go_keep)
      (first
        | (go_at_call 12; (with_reducible refine (C3.out _ (by assumption)).mono ?_); rintro e w5 ⟨rfl, hb5⟩; have hx5 : Below w.heap.size w w5 := below_from (by assumption) hb5; have hy5 : Below W1.heap.size W1 w5 := below_from (by assumption) hb5; obtain ⟨p5, f5⟩ := blk (heap_below hy5 H1.out))
        | (go_at_call 13; (with_reducible refine (C4.out _ (by assumption)).mono ?_); rintro e w6 ⟨rfl, hb6⟩; have hx6 : Below w.heap.size w w6 := below_from (by assumption) hb6; have hy6 : Below W1.heap.size W1 w6 := below_from (by assumption) hb6; obtain ⟨p6, f6⟩ := blk (heap_below hy6 H1.out))
        | (go_at_call 14; (with_reducible refine (C5.out _ (by assumption)).mono ?_); rintro e w7 ⟨rfl, hb7⟩; have hx7 : Below w.heap.size w w7 := below_from (by assumption) hb7; have hy7 : Below W1.heap.size W1 w7 := below_from (by assumption) hb7; obtain ⟨p7, f7⟩ := blk (heap_below hy7 H1.out))
        | (go_at_call 15; (with_reducible refine (C6.out _ (by assumption)).mono ?_); rintro e w8 ⟨rfl, hb8⟩; have hx8 : Below w.heap.size w w8 := below_from (by assumption) hb8; have hy8 : Below W1.heap.size W1 w8 := below_from (by assumption) hb8; obtain ⟨p8, f8⟩ := blk (heap_below hy8 H1.out))
        | (go_at_call 9; (with_reducible refine (CA.out _ (by assumption)).mono ?_); rintro e w9 ⟨rfl, hb9⟩; have hx9 : Below w.heap.size w w9 := below_from (by assumption) hb9; have hy9 : Below W1.heap.size W1 w9 := below_from (by assumption) hb9; obtain ⟨p9, f9⟩ := blk (heap_below hy9 H1.out)))
    all_goals
      go_wp2_with fail
      go_ret
      exact ⟨rfl, hx9⟩
end Go.Proofs.YtgeaijnelopkbaaDoor
namespace Go.Proofs.YtgeaijnelopkbaaDoor
open Go.RowKit
open Go.Proofs.Qw
attribute [local go_sem ↓] Go.wp_at_zero Go.wp_at_succ
set_option maxRecDepth 100000 in
set_option maxHeartbeats 4000000 in
theorem valueOver_any (HP : CssP) (h : Nat) (n : Nod) (a k : Value) (g : Int) (l : List UInt8) (w : World) (S : Nat → Prop) (hA : AttsR false w S a n.attrs) (hK : NodsR false h w S k n.kids) (hs : n.Sane) (he : EnvT w) (hg1 : -9223372036854775808 ≤ g) (hg2 : g ≤ 9223372036854775807) :
    Calls Tryd.prog 5 #[nodV n a k, .int .i64 g, .string ⟨l.toArray⟩] w fun e w' => e = .returned (.bool true) ∧ Below w.heap.size w w' := by
  have CH : Hid (∀ W, Below w.heap.size w W → Calls Tryd.prog 8 #[nodV n a k] W fun e w' => e = .returned (.bool (decide (weighN n 3000 < 0))) ∧ Below W.heap.size W w') := Lib.hid fun W hW => heavy_any h n a k W w S hA hK hW hs
  have CA : Hid (∀ W, Below w.heap.size w W → Calls Tryd.prog 9 #[] W fun e w' => e = .returned (.bool true) ∧ Below W.heap.size W w') := Lib.hid fun W hW => awake17_any HP W (he.below hW)
  obtain ⟨la, lc, rfl⟩ := hA.slice
  obtain ⟨ka, kc, rfl⟩ := hK.slice
  obtain ⟨W1, hW1, hB, hz, hB1⟩ := one_node w (.int .i64 n.tag) (.slice la n.attrs.length lc) (.string ⟨n.text.toArray⟩) (.slice ka n.kids.length kc)
  have H1 := Lib.hid hB1
  have HB := Lib.hid hB
  obtain ⟨p1, f1⟩ := blk hB1
  by_cases hv : weighN n 3000 < 0
  · have HV : Hid (decide (weighN n 3000 < 0) = true) := Lib.hid (by simpa using hv)
    rw [HV.out] at CH
    clear hA hK hs he hv hz hB1
    unfold nodV at *
    go_enter Tryd.func5, Tryd.ntmps5
    go_wp2_with (first
      | (go_at_call 8; refine (CH.out _ HB.out).mono ?_; rintro e w2 ⟨rfl, hb2⟩; have hx2 := below_from HB.out hb2)
      | (go_at_call 9; refine (CA.out _ hx2).mono ?_; rintro e w3 ⟨rfl, hb3⟩))
    go_ret
    exact ⟨rfl, below_from hx2 hb3⟩
  have HV : Hid (decide (weighN n 3000 < 0) = false) := Lib.hid (by simpa using hv)
  rw [HV.out] at CH
  have hsz := light_vals hv
  have hsz1 : ∀ x ∈ n.attrs, x.value.length ≤ 100000 := fun x hx => by have := hsz x hx; omega
  obtain ⟨o1, o2, o3, o4, o5⟩ := over_law n g l hg1 hg2
  have C1 : Hid (∀ W, Below w.heap.size w W → Calls Tryd.prog 10 #[nodV n (.slice la n.attrs.length lc) (.slice ka n.kids.length kc)] W fun e w' => e = .returned (.tuple #[.int .i64 (saysN n).1, .int .i64 (saysN n).2]) ∧ Below W.heap.size W w') := Lib.hid fun W hW => nodSays_any HP n _ _ _ _ W S (hA.below (rdOf_stable _) hW) (he.1.below hW) hsz1
  have C3 : Hid (∀ W, Below w.heap.size w W → Calls Tryd.prog 12 #[nodV n (.slice la n.attrs.length lc) (.slice ka n.kids.length kc), .int .i64 g] W fun e w' => e = .returned (.int .i64 (bitsN n g)) ∧ Below W.heap.size W w') := Lib.hid fun W hW => nodBits_any HP n _ _ _ _ g W S (hA.below (rdOf_stable _) hW) (he.1.below hW) hsz1
  have C4 : Hid (∀ W, Below w.heap.size w W → Calls Tryd.prog 12 #[nodV n (.slice la n.attrs.length lc) (.slice ka n.kids.length kc), .int .i64 (bitsN n g)] W fun e w' => e = .returned (.int .i64 (bitsN n g)) ∧ Below W.heap.size W w') := Lib.hid fun W hW => by
    have := nodBits_any HP n _ ka n.kids.length kc (bitsN n g) W S (hA.below (rdOf_stable _) hW) (he.1.below hW) hsz1
    rw [o1] at this
    exact this
  have C5 : Hid (∀ W, Below w.heap.size w W → Calls Tryd.prog 14 #[nodV n (.slice la n.attrs.length lc) (.slice ka n.kids.length kc), .string ⟨l.toArray⟩] W fun e w' => e = .returned (.string ⟨(linkN n l).toArray⟩) ∧ Below W.heap.size W w') := Lib.hid fun W hW => nodLink_any n _ _ _ _ l W S (hA.below (rdOf_stable _) hW) (he.below hW) hsz1
  have C6 : Hid (∀ W, Below w.heap.size w W → Calls Tryd.prog 14 #[nodV n (.slice la n.attrs.length lc) (.slice ka n.kids.length kc), .string ⟨(linkN n l).toArray⟩] W fun e w' => e = .returned (.string ⟨(linkN n l).toArray⟩) ∧ Below W.heap.size W w') := Lib.hid fun W hW => by
    have := nodLink_any n _ ka n.kids.length kc (linkN n l) W S (hA.below (rdOf_stable _) hW) (he.below hW) hsz1
    rw [o2] at this
    exact this
  have CO : Hid (∀ W, Calls Tryd.prog 25 #[.int .i64 g, .int .i64 (saysN n).1, .int .i64 (saysN n).2] W fun e w' => e = .returned (.int .i64 (bitsN n g)) ∧ W = w') := Lib.hid fun W => overV_any _ _ _ W
  by_cases hlen : 1000 < l.length
  · have hd : decide (1000 < (l.length : Int)) = true := by simp; omega
    clear hA hK hs he hv hz hB1 hsz hsz1 o1 o2 o3 o4 o5
    unfold nodV at *
    go_enter Tryd.func5, Tryd.ntmps5
    go_wp2_with (first
      | (go_at_call 8; refine (CH.out _ HB.out).mono ?_; rintro e w2 ⟨rfl, hb2⟩; have hx2 := below_from HB.out hb2)
      | (go_at_call 9; refine (CA.out _ hx2).mono ?_; rintro e w3 ⟨rfl, hb3⟩))
    go_ret
    exact ⟨rfl, below_from hx2 hb3⟩
  have hll : (linkN n l).length ≤ 100000 := by
    rw [linkN_eq]
    split
    · exact attrF_size hsz1
    · omega
  have CT : Hid (∀ W, Below w.heap.size w W → targetF (linkN n l) = true → Calls Tryd.prog 26 #[.string ⟨(linkN n l).toArray⟩] W fun e w' => e = .returned (.bool true) ∧ Below W.heap.size W w') := Lib.hid fun W hW ht => by
    have := target_any ⟨(linkN n l).toArray⟩ W (he.below hW) (by simp [ByteArray.size]; omega)
    rw [show targetF (⟨(linkN n l).toArray⟩ : ByteArray).data.toList = true from ht] at this
    exact this
  have hd : decide (1000 < (l.length : Int)) = false := by simp; omega
  have O5 := Lib.hid o5
  clear hA hK hs he hv hz hB1 hsz hsz1 o1 o2 o5 hll
  unfold nodV at *
  generalize saysN n = r at *
  generalize bitsN n g = q at *
  generalize linkN n l = y at *
  generalize n.tag = t at *
  go_enter Tryd.func5, Tryd.ntmps5
  go_upto_region 4 with (first
    | (go_at_call 8; refine (CH.out _ HB.out).mono ?_; rintro e w2 ⟨rfl, hb2⟩; have hx2 := below_from HB.out hb2; obtain ⟨p2, f2⟩ := blk (heap_below hb2 H1.out))
    | (go_at_call 10; refine (C1.out _ hx2).mono ?_; rintro e w3 ⟨rfl, hb3⟩; have hx3 := below_from hx2 hb3; have hy3 := below_from hb2 hb3; obtain ⟨p3, f3⟩ := blk (heap_below hy3 H1.out)))
  have hxd : Below w.heap.size w w3.drew := hx3.drew
  have hyd : Below W1.heap.size W1 w3.drew := hy3.drew
  clear p1 f1 p2 f2
  go_cut [9, 10] from 24 to 29 (fun b s wx => b = .int .i64 q ∧ s = .string ⟨y.toArray⟩ ∧ Hid (Below w.heap.size w wx) ∧ Hid (Below W1.heap.size W1 wx))
  case first =>
    go_region_held3 (fun w' => w'.cell? ⟨w.heap.size, 0, none⟩ = some (.int .i64 t) ∧ w'.cell? ⟨w.heap.size, 1, none⟩ = some (.slice la n.attrs.length lc) ∧ w'.cell? ⟨w.heap.size, 2, none⟩ = some (.string ⟨n.text.toArray⟩) ∧ w'.cell? ⟨w.heap.size, 3, none⟩ = some (.slice ka n.kids.length kc)) (go_keep)
      (first
        | (go_at_call 12; (with_reducible refine (C3.out _ (by assumption)).mono ?_); rintro e w5 ⟨rfl, hb5⟩; have hx5 : Below w.heap.size w w5 := below_from (by assumption) hb5; have hy5 : Below W1.heap.size W1 w5 := below_from (by assumption) hb5; obtain ⟨p5, f5⟩ := blk (heap_below hy5 H1.out))
        | (go_at_call 14; (with_reducible refine (C5.out _ (by assumption)).mono ?_); rintro e w7 ⟨rfl, hb7⟩; have hx7 : Below w.heap.size w w7 := below_from (by assumption) hb7; have hy7 : Below W1.heap.size W1 w7 := below_from (by assumption) hb7; obtain ⟨p7, f7⟩ := blk (heap_below hy7 H1.out)))
    all_goals
      go_wp2_with fail
      go_meet
      case rel => exact ⟨rfl, rfl, Lib.hid hx7, Lib.hid hy7⟩
  case rest =>
    obtain ⟨rfl, rfl, HX, HY⟩ := hcut
    have hx9 := HX.out
    have hy9 := HY.out
    obtain ⟨p9, f9⟩ := blk (heap_below hy9 H1.out)
    clear p3 f3 hxd hyd
    refine ‹∀ (a : Act) (w : World), Code.wp _ _ _ a w → _› _ _ ?_
    by_cases hy : y = l
    · have hq : (y == l) = true := by simp [hy]
      clear hy
      go_wp2_with (first
        | (go_at_call 25; (with_reducible refine (CO.out _).mono ?_); rintro e w10 ⟨rfl, rfl⟩)
        | (go_at_call 12; (with_reducible refine (C4.out _ hx9).mono ?_); rintro e w11 ⟨rfl, hb11⟩; have hx11 := below_from hx9 hb11; have hy11 := below_from hy9 hb11; obtain ⟨p11, f11⟩ := blk (heap_below hy11 H1.out))
        | (go_at_call 14; (with_reducible refine (C6.out _ hx11).mono ?_); rintro e w12 ⟨rfl, hb12⟩; have hx12 := below_from hx11 hb12; have hy12 := below_from hy11 hb12; obtain ⟨p12, f12⟩ := blk (heap_below hy12 H1.out))
        | (go_at_call 9; (with_reducible refine (CA.out _ hx12).mono ?_); rintro e w13 ⟨rfl, hb13⟩))
      go_ret
      exact ⟨rfl, below_from hx12 hb13⟩
    · have hq : (y == l) = false := by simp [hy]
      obtain ⟨rfl, ht⟩ := O5.out.resolve_left hy
      have HT := Lib.hid ht
      clear hy ht
      go_wp2_with (first
        | (go_at_call 25; (with_reducible refine (CO.out _).mono ?_); rintro e w10 ⟨rfl, rfl⟩)
        | (go_at_call 12; (with_reducible refine (C4.out _ hx9).mono ?_); rintro e w11 ⟨rfl, hb11⟩; have hx11 := below_from hx9 hb11; have hy11 := below_from hy9 hb11; obtain ⟨p11, f11⟩ := blk (heap_below hy11 H1.out))
        | (go_at_call 14; (with_reducible refine (C6.out _ hx11).mono ?_); rintro e w12 ⟨rfl, hb12⟩; have hx12 := below_from hx11 hb12; have hy12 := below_from hy11 hb12; obtain ⟨p12, f12⟩ := blk (heap_below hy12 H1.out))
        | (go_at_call 26; (with_reducible refine (CT.out _ hx12 HT.out).mono ?_); rintro e w14 ⟨rfl, hb14⟩; have hx14 := below_from hx12 hb14)
        | (go_at_call 9; (with_reducible refine (CA.out _ hx14).mono ?_); rintro e w13 ⟨rfl, hb13⟩))
      go_ret
      exact ⟨rfl, below_from hx14 hb13⟩
end Go.Proofs.YtgeaijnelopkbaaDoor
namespace Go.Proofs.YtgeaijnelopkbaaDoor
open Go.RowKit
open Go.Proofs.Qw
attribute [local go_sem ↓] Go.wp_at_zero Go.wp_at_succ
def RSameAt (h : Nat) : Prop := ∀ (n1 n2 : Nod) (a1 k1 a2 k2 : Value) (w : World) (S1 S2 : Nat → Prop), AttsR false w S1 a1 n1.attrs → NodsR false h w S1 k1 n1.kids → AttsR false w S2 a2 n2.attrs → NodsR false h w S2 k2 n2.kids →
    Calls Tryd.prog 18 #[nodV n1 a1 k1, nodV n2 a2 k2] w fun e w' => e = .returned (.bool (decide (n1 = n2))) ∧ Below w.heap.size w w'
theorem ne_tag {a b : Nod} (h : a.tag ≠ b.tag) : a ≠ b := fun e => h (by rw [e])
theorem ne_text {a b : Nod} (h : a.text ≠ b.text) : a ≠ b := fun e => h (by rw [e])
theorem ne_attrs {a b : Nod} (h : a.attrs ≠ b.attrs) : a ≠ b := fun e => h (by rw [e])
theorem ne_kids {a b : Nod} (h : a.kids ≠ b.kids) : a ≠ b := fun e => h (by rw [e])
theorem nod_eq {a b : Nod} (h1 : a.tag = b.tag) (h2 : a.attrs = b.attrs) (h3 : a.text = b.text) (h4 : a.kids = b.kids) : a = b := by
  rw [← Nod.eta a, ← Nod.eta b, h1, h2, h3, h4]
set_option maxRecDepth 100000 in
set_option maxHeartbeats 4000000 in
theorem rsame_step (h : Nat) (ih : ∀ h', h = h' + 1 → RSameAt h') : RSameAt h := by
  intro n1 n2 a1 k1 a2 k2 w S1 S2 hA1 hK1 hA2 hK2
  have HC1 : Hid (∀ W, Below w.heap.size w W → Calls Tryd.prog 42 #[a1, a2] W fun e w' => e = .returned (.bool (decide (n1.attrs = n2.attrs))) ∧ Below W.heap.size W w') := Lib.hid fun W h => refSameA_any _ _ _ _ W S1 S2 (hA1.below (rdOf_stable _) h) (hA2.below (rdOf_stable _) h)
  obtain ⟨la, lc, rfl⟩ := hA1.slice
  obtain ⟨la2, lc2, rfl⟩ := hA2.slice
  obtain ⟨ca, cc, rfl, hc, hm, hx⟩ := nods_shape hK1
  obtain ⟨ca2, cc2, rfl, hc2, hm2, hx2⟩ := nods_shape hK2
  have HX := Lib.hid hx
  have HX2 := Lib.hid hx2
  have HI := Lib.hid ih
  clear hA1 hK1 hA2 hK2 hx hx2 ih
  unfold maxLen at hm hm2
  obtain ⟨W1, hW1, hB, hz, hB1, hB2⟩ := two_nodes w (.int .i64 n1.tag) (.slice la n1.attrs.length lc) (.string ⟨n1.text.toArray⟩) (.slice ca n1.kids.length cc) (.int .i64 n2.tag) (.slice la2 n2.attrs.length lc2) (.string ⟨n2.text.toArray⟩) (.slice ca2 n2.kids.length cc2)
  have HZ := Lib.hid hz
  have HB1 := Lib.hid hB1
  have HB2 := Lib.hid hB2
  clear hz
  obtain ⟨p1, f1⟩ := blk hB1
  obtain ⟨p2, f2⟩ := blk hB2
  clear hB1 hB2
  have hBs := hB.size
  go_enter Tryd.func18, Tryd.ntmps18
  by_cases et : n1.tag = n2.tag
  · have bt : (n1.tag != n2.tag) = false := by simp [et]
    have ET := Lib.hid et
    clear et
    by_cases ex : n1.text = n2.text
    · have bx : (n1.text == n2.text) = true := by simp [ex]
      have EX := Lib.hid ex
      clear ex
      by_cases ea : n1.attrs = n2.attrs
      · rw [decide_eq_true ea] at HC1
        have EA := Lib.hid ea
        clear ea
        by_cases el : n1.kids.length = n2.kids.length
        · have bl : ((n1.kids.length : Int) != n2.kids.length) = false := by simp [el]
          have EL := Lib.hid el
          clear el
          go_wp2_with (go_at_call 42; refine (HC1.out _ hB).mono ?_; rintro e w2 ⟨rfl, hb2⟩; have hbb := below_from hB hb2; obtain ⟨p3, f3⟩ := blk (heap_below hb2 HB1.out); obtain ⟨p4, f4⟩ := blk (heap_below hb2 HB2.out))
          go_loopw [5] (fun i wr => ∃ k : Nat, k ≤ n1.kids.length ∧ i = .int .i64 k ∧ Hid (n1.kids.take k = n2.kids.take k) ∧ Below W1.heap.size W1 wr) (fun i _ => n1.kids.length - (intOf i).toNat)
          case atStart => exact ⟨0, Nat.zero_le _, rfl, Lib.hid rfl, hb2⟩
          case round =>
            clear p3 f3 p4 f4 hbb hb2
            obtain ⟨k, hk, rfl, HE, hb⟩ := hrel
            have hwz := hb.size
            have z0 := HZ.out
            obtain ⟨p3, f3⟩ := blk (heap_below hb HB1.out)
            obtain ⟨p4, f4⟩ := blk (heap_below hb HB2.out)
            by_cases hlt : k < n1.kids.length
            · obtain ⟨x, hx, _⟩ := getOf n1.kids k hlt
              obtain ⟨y, hy, _⟩ := getOf n2.kids k (by have := EL.out; omega)
              obtain ⟨b, o, la', lc', ka', kc', h', rfl, rfl, hA⟩ := HX.out k x hx
              obtain ⟨b2, o2, la2', lc2', ka2', kc2', h'', e'', rfl, hA2⟩ := HX2.out k y hy
              obtain rfl : h' = h'' := by omega
              clear e''
              have hbw : Below w.heap.size w wr := hB.trans (hb.mono hBs)
              have HW : Hid (∀ W, Below wr.heap.size wr W → Calls Tryd.prog 18 #[nodV x (.slice la' x.attrs.length lc') (.slice ka' x.kids.length kc'), nodV y (.slice la2' y.attrs.length lc2') (.slice ka2' y.kids.length kc2')] W fun e w' => e = .returned (.bool (decide (x = y))) ∧ Below W.heap.size W w') := Lib.hid fun W hW => by
                have h3 := hA.below (below_from hbw hW)
                have h4 := hA2.below (below_from hbw hW)
                exact HI.out h' rfl x y _ _ _ _ W S1 S2 h3.attrsR h3.kidsR h4.attrsR h4.kidsR
              obtain ⟨hz, c0, c1, c2, c3, _, _⟩ := hA.below hbw
              obtain ⟨hz2, d0, d1, d2, d3, _, _⟩ := hA2.below hbw
              have i0 : (0 : Int) ≤ (k : Int) := Int.natCast_nonneg _
              have i1 : (k : Int) < (n1.kids.length : Int) := by omega
              have i2 : (k : Int) < (n2.kids.length : Int) := by have := EL.out; omega
              have HXY := Lib.hid (And.intro hx hy)
              have hbs := hb.size
              have hzA : w.heap.size < wr.heap.size := by omega
              have hzB : w.heap.size + 1 < wr.heap.size := by omega
              clear hx hy hA hA2
              have hwr : Below wr.heap.size wr wr := Below.refl _ _
              rcases Classical.em (x = y) with hxy | hxy
              · have HE2 := Lib.hid (take_both HXY.out.1 HXY.out.2 HE.out hxy)
                have hd : decide (x = y) = true := decide_eq_true hxy
                rw [hd] at HW
                clear hxy hd
                go_wp2_with fail
                (go_region_held3 (fun w' => w'.cell? ⟨w.heap.size, 3, none⟩ = some (.slice (some ⟨b, o, none⟩) n1.kids.length cc) ∧ w'.cell? ⟨w.heap.size + 1, 3, none⟩ = some (.slice (some ⟨b2, o2, none⟩) n2.kids.length cc2) ∧ w'.cell? ⟨b, o + k * 4, none⟩ = some (.int .i64 x.tag) ∧ w'.cell? ⟨b, o + k * 4 + 1, none⟩ = some (.slice la' x.attrs.length lc') ∧ w'.cell? ⟨b, o + k * 4 + 2, none⟩ = some (.string ⟨x.text.toArray⟩) ∧ w'.cell? ⟨b, o + k * 4 + 3, none⟩ = some (.slice ka' x.kids.length kc') ∧ w'.cell? ⟨b2, o2 + k * 4, none⟩ = some (.int .i64 y.tag) ∧ w'.cell? ⟨b2, o2 + k * 4 + 1, none⟩ = some (.slice la2' y.attrs.length lc2') ∧ w'.cell? ⟨b2, o2 + k * 4 + 2, none⟩ = some (.string ⟨y.text.toArray⟩) ∧ w'.cell? ⟨b2, o2 + k * 4 + 3, none⟩ = some (.slice ka2' y.kids.length kc2')) ((first | go_keep | skip)) ((go_at_call 18; refine (HW.out _ hwr.drew).mono ?_; rintro e w1 ⟨rfl, hb1⟩; obtain ⟨q1, q2⟩ := bcell hb1; have hk1 := q1 b (o + k * 4) hz; have hk2 := q1 b (o + k * 4 + 1) hz; have hk3 := q1 b (o + k * 4 + 2) hz; have hk4 := q1 b (o + k * 4 + 3) hz; have hk5 := q1 b2 (o2 + k * 4) hz2; have hk6 := q1 b2 (o2 + k * 4 + 1) hz2; have hk7 := q1 b2 (o2 + k * 4 + 2) hz2; have hk8 := q1 b2 (o2 + k * 4 + 3) hz2; have hk9 := q1 w.heap.size 3 hzA; have hkA := q1 (w.heap.size + 1) 3 hzB))); go_wp2_with fail
                go_roundw
                case rel => exact ⟨k + 1, hlt, by go_num, HE2, (hb.drew.trans (hb1.mono hbs))⟩
                case measure => simp [intOf]; omega
              · have HN := Lib.hid (ne_kids (a := n1) (b := n2) (ne_at HXY.out.1 HXY.out.2 hxy))
                have hd : decide (x = y) = false := decide_eq_false hxy
                rw [hd] at HW
                clear hxy hd
                go_wp2_with fail
                (go_region_held3 (fun w' => w'.cell? ⟨w.heap.size, 3, none⟩ = some (.slice (some ⟨b, o, none⟩) n1.kids.length cc) ∧ w'.cell? ⟨w.heap.size + 1, 3, none⟩ = some (.slice (some ⟨b2, o2, none⟩) n2.kids.length cc2) ∧ w'.cell? ⟨b, o + k * 4, none⟩ = some (.int .i64 x.tag) ∧ w'.cell? ⟨b, o + k * 4 + 1, none⟩ = some (.slice la' x.attrs.length lc') ∧ w'.cell? ⟨b, o + k * 4 + 2, none⟩ = some (.string ⟨x.text.toArray⟩) ∧ w'.cell? ⟨b, o + k * 4 + 3, none⟩ = some (.slice ka' x.kids.length kc') ∧ w'.cell? ⟨b2, o2 + k * 4, none⟩ = some (.int .i64 y.tag) ∧ w'.cell? ⟨b2, o2 + k * 4 + 1, none⟩ = some (.slice la2' y.attrs.length lc2') ∧ w'.cell? ⟨b2, o2 + k * 4 + 2, none⟩ = some (.string ⟨y.text.toArray⟩) ∧ w'.cell? ⟨b2, o2 + k * 4 + 3, none⟩ = some (.slice ka2' y.kids.length kc2')) ((first | go_keep | skip)) ((go_at_call 18; refine (HW.out _ hwr.drew).mono ?_; rintro e w1 ⟨rfl, hb1⟩; obtain ⟨q1, q2⟩ := bcell hb1; have hk1 := q1 b (o + k * 4) hz; have hk2 := q1 b (o + k * 4 + 1) hz; have hk3 := q1 b (o + k * 4 + 2) hz; have hk4 := q1 b (o + k * 4 + 3) hz; have hk5 := q1 b2 (o2 + k * 4) hz2; have hk6 := q1 b2 (o2 + k * 4 + 1) hz2; have hk7 := q1 b2 (o2 + k * 4 + 2) hz2; have hk8 := q1 b2 (o2 + k * 4 + 3) hz2; have hk9 := q1 w.heap.size 3 hzA; have hkA := q1 (w.heap.size + 1) 3 hzB))); go_wp2_with fail
                go_ret
                exact ⟨by rw [decide_eq_false HN.out]; rfl, hB.trans ((hb.drew.trans (hb1.mono hbs)).mono hBs)⟩
            · obtain rfl : k = n1.kids.length := by omega
              have HD : Hid (n1 = n2) := Lib.hid (nod_eq ET.out EA.out EX.out (by have h1 := HE.out; have h2 := EL.out; rw [List.take_length, h2, List.take_length] at h1; exact h1))
              have HB := Lib.hid (hB.trans (hb.mono hBs))
              clear hb
              go_wp2_with fail
              go_ret
              exact ⟨by rw [decide_eq_true HD.out]; rfl, HB.out⟩
        · have bl : ((n1.kids.length : Int) != n2.kids.length) = true := by simp; omega
          have HN := Lib.hid (ne_kids (a := n1) (b := n2) (fun e => el (by rw [e])))
          clear el
          go_wp2_with (go_at_call 42; refine (HC1.out _ hB).mono ?_; rintro e w2 ⟨rfl, hb2⟩; have hbb := below_from hB hb2; obtain ⟨p3, f3⟩ := blk (heap_below hb2 HB1.out); obtain ⟨p4, f4⟩ := blk (heap_below hb2 HB2.out))
          go_ret
          exact ⟨by rw [decide_eq_false HN.out]; rfl, hbb⟩
      · rw [decide_eq_false ea] at HC1
        have HN := Lib.hid (ne_attrs ea)
        clear ea
        go_wp2_with (go_at_call 42; refine (HC1.out _ hB).mono ?_; rintro e w2 ⟨rfl, hb2⟩; have hbb := below_from hB hb2; obtain ⟨p3, f3⟩ := blk (heap_below hb2 HB1.out); obtain ⟨p4, f4⟩ := blk (heap_below hb2 HB2.out))
        go_ret
        exact ⟨by rw [decide_eq_false HN.out]; rfl, hbb⟩
    · have bx : (n1.text == n2.text) = false := by simp [ex]
      have HN := Lib.hid (ne_text ex)
      clear ex
      go_wp2_with fail
      go_ret
      exact ⟨by rw [decide_eq_false HN.out]; rfl, hB⟩
  · have bt : (n1.tag != n2.tag) = true := by simp [et]
    have HN := Lib.hid (ne_tag et)
    clear et
    go_wp2_with fail
    go_ret
    exact ⟨by rw [decide_eq_false HN.out]; rfl, hB⟩
theorem rsame_all : ∀ h, RSameAt h
  | 0 => rsame_step 0 (fun _ e => by cases e)
  | h + 1 => rsame_step (h + 1) (fun h' e => by cases e; exact rsame_all h)
end Go.Proofs.YtgeaijnelopkbaaDoor
