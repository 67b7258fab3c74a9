/- The walk of the finder: the line's node. -/
import Derived.Test.YteognfhemmogpaaGreatDoorRenFindPP
import Derived.Test.YteognfhemmogpaaGreatDoorRfShareP
import Derived.Test.YteognfhemmogpaaGreatDoorRenFitP
import Derived.Test.YteognfhemmogpaaGreatDoorRenBaseP
set_option linter.unusedVariables false
set_option linter.unusedSimpArgs false
namespace Go.Proofs.Qw
open Go.RowKit
mutual
theorem findN_le : ∀ (n : Nod) (p : List Int) (i j : Nat), findN n p i = .inr j → j ≤ i
 | .mk _ _ _ ks, p, i, j, h => findK_le ks 0 p i j (by rw [findN] at h; exact h)
theorem findK_le : ∀ (ks : List Nod) (t : Nat) (p : List Int) (i j : Nat), findK ks t p i = .inr j → j ≤ i
 | [], t, p, i, j, h => by rw [findK_nil] at h; cases h; exact Nat.le_refl _
 | k :: ks, t, p, i, j, h => by
  rw [findK_cons] at h
  split at h
  ·cases i with
   | zero => cases h
   | succ i => have := findK_le ks _ _ i j h; omega
  ·cases hr : findN k (p ++ [(t : Int)]) i with
   | inl r => rw [hr] at h; cases h
   | inr i2 =>
    rw [hr] at h
    have h1 := findN_le k _ _ _ hr
    have h2 := findK_le ks _ _ _ _ h
    omega
end
end Go.Proofs.Qw
namespace Go.Proofs.YteognfhemmogpaaGreatDoor
open Go.RowKit
open Go.Proofs.Qw
attribute [local go_sem] Oper.semAt_some
theorem nods_shapeS {h : Nat} {w : World} {S : Nat → Prop} {v : Value} {d : List Nod} (hd : NodsR false h w S v d) :
  ∃ a c, v = .slice a d.length c ∧ d.length ≤ c ∧ c ≤ maxLen ∧ ∀ i l, d[i]? = some l → ∃ b o aa ac ka kc h', h = h' + 1 ∧ a = some ⟨b, o, none⟩ ∧ S b ∧ NodAt h' w S b (o + i * 4) l aa ac ka kc := by
 obtain ⟨a, c, rfl, hc, hm, hx⟩ := SliceR.shape hd
 refine ⟨a, c, rfl, hc, hm, fun i l hl => ?_⟩
 obtain ⟨b, o, vs, rfl, hz, hS, _, hR, he⟩ := hx i l hl
 match h, hR with
 | h' + 1, ⟨x, y, e, h1, h2⟩ =>
  subst e
  obtain ⟨aa, ac, rfl⟩ := h1.slice
  obtain ⟨ka, kc, rfl⟩ := h2.slice
  exact ⟨b, o, aa, ac, ka, kc, h', rfl, rfl, hS, hz, he 0 _ rfl, he 1 _ rfl, he 2 _ rfl, he 3 _ rfl, h1, h2⟩
theorem alloc_le {w : World} {o : Obj} {n : Nat} (h : (w.alloc o).heap.size ≤ n) : w.heap.size + 1 ≤ n := by
 simp only [World.alloc, Array.size_push] at h
 exact h
theorem drew_heapF (w : World) : w.drew.heap = w.heap := rfl
theorem But.setN {B : Nat} {a w : World} (h : But B a w) {b : Nat} (hb : a.heap.size ≤ b) (o : Nat) (v : Value) : But B a (w.setCell ⟨b, o, none⟩ v) :=
 ⟨h.os, h.tape, h.output, ⟨by have := h.size; simpa using this, fun d hd hz => by
  rw [heap_set, if_neg (by omega)]
  exact h.keeps.block d hd hz⟩⟩
theorem But.drew {B : Nat} {a w : World} (h : But B a w) : But B a w.drew := ⟨h.os, h.tape, h.output, h.keeps.drew⟩
theorem keeps4 {S : Nat → Prop} {w : World} {Z : Nat} (hS : ¬ S Z) (x y z v : Value) : Keeps S w ((((w.setCell ⟨Z, 0, none⟩ x).setCell ⟨Z, 1, none⟩ y).setCell ⟨Z, 2, none⟩ z).setCell ⟨Z, 3, none⟩ v).drew :=
 (((((Keeps.refl S w).set hS x).set hS y).set hS z).set hS v).drew
theorem keeps4a {S : Nat → Prop} {w : World} {Z : Nat} (hS : ¬ S Z) (x y z v : Value) (o : Obj) : Keeps S w (((((w.setCell ⟨Z, 0, none⟩ x).setCell ⟨Z, 1, none⟩ y).setCell ⟨Z, 2, none⟩ z).setCell ⟨Z, 3, none⟩ v).alloc o).drew :=
 ((((((Keeps.refl S w).set hS x).set hS y).set hS z).set hS v).alloc o).drew
theorem But.set4 {B : Nat} {a w : World} (h : But B a w) {Z : Nat} (hZ : a.heap.size ≤ Z) (x y z v : Value) : But B a ((((w.setCell ⟨Z, 0, none⟩ x).setCell ⟨Z, 1, none⟩ y).setCell ⟨Z, 2, none⟩ z).setCell ⟨Z, 3, none⟩ v).drew :=
 ((((h.setN hZ 0 x).setN hZ 1 y).setN hZ 2 z).setN hZ 3 v).drew
theorem results_tnt {fn : Func} {p s u : Tmp} (h : fn.results = #[.tmp s, .cell p 35, .tmp u]) (tmps : Array Value) (w : World) (B : Nat) (x y z v : Value) (hp : tmps.getD p undef = .pointer (some ⟨B, 0, none⟩)) (hB : w.heap[B]? = some (.cells #[x, y, z, v] 35)) :
  (results fn tmps).run Tryz.prog w = .ok (.tuple #[tmps.getD s undef, .agg #[x, y, z, v], tmps.getD u undef]) w := by
 have hp' : tmps[p]?.getD undef = .pointer (some ⟨B, 0, none⟩) := by simpa using hp
 have h1 := run_loadVar_row (P := Tryz.prog) w B 35 35 _ _ _ hB Tryz.underlying35 rfl (by kernel_rfl)
 simp [results, h, hp', asAddr, h1]
theorem two_nodF (w : World) (x1 x2 x3 x4 y1 y2 y3 y4 : Value) : ∃ W1, (w.alloc (.cells #[x1, x2, x3, x4] 35)).alloc (.cells #[y1, y2, y3, y4] 35) = W1 ∧ Below w.heap.size w W1 ∧ w.heap.size + 1 < W1.heap.size ∧ W1.heap[w.heap.size]? = some (.cells #[x1, x2, x3, x4] 35) ∧ W1.heap[w.heap.size + 1]? = some (.cells #[y1, y2, y3, y4] 35) :=
 ⟨_, rfl, ((Below.refl _ _).alloc (Nat.le_refl _) _).alloc (by simp) _, by simp, heap_old _ _ (heap_new _ _ rfl), heap_new _ _ (by simp)⟩
def LineOut (B h : Nat) (o : Int) (S : Nat → Prop) (n : Nat) (r : (List Int × Nod) ⊕ Nat) (e : Ending) (w' : World) : Prop := match r with
 | .inl (q, m) => ∃ qa qc ma mc ka kc, e = .returned (.tuple #[.slice qa q.length qc, .agg #[.int .i64 m.tag, .slice ma m.attrs.length mc, .string ⟨m.text.toArray⟩, .slice ka m.kids.length kc], .bool true]) ∧
   IntsR false w' (fun b => n ≤ b) (.slice qa q.length qc) q ∧ AttsR false w' S (.slice ma m.attrs.length mc) m.attrs ∧ NodsR false h w' S (.slice ka m.kids.length kc) m.kids ∧ ∃ j : Int, FinAt B j o w'
 | .inr j => e = .returned (.tuple #[.slice none 0 0, .agg #[.int .i64 0, .slice none 0 0, .string ⟨#[]⟩, .slice none 0 0], .bool false]) ∧ FinAt B j o w'
def LineAt (h : Nat) : Prop := ∀ (n : Nod) (a k pv : Value) (p : List Int) (i B : Nat) (o : Int) (w : World) (S : Nat → Prop), AttsR false w S a n.attrs → NodsR false h w S k n.kids → (∀ b, S b → b < w.heap.size ∧ b ≠ B) →
  IntsR false w (fun b => b ≠ B) pv p → p.length + h ≤ 1000 → i ≤ 1000000 → FinAt B i o w →
  Calls Tryz.prog 30 #[.pointer (some ⟨B, 0, none⟩), nodV n a k, pv] w fun e w' => But B w w' ∧ LineOut B h o S w.heap.size (findN n p i) e w'
set_option maxRecDepth 100000 in
set_option maxHeartbeats 4000000 in
theorem line_step (h : Nat) (ih : ∀ h', h = h' + 1 → LineAt h') : LineAt h := by
 intro n a kv pv p i B o w S hA hK hS hP hpl hi hF
 obtain ⟨la, lc, rfl⟩ := hA.slice
 obtain ⟨ka, kc, rfl, hkc, hkm, _⟩ := nods_shapeS hK
 obtain ⟨pa, pc, rfl⟩ := hP.slice
 have hBz : B < w.heap.size := (Array.getElem?_eq_some_iff.1 hF).1
 have HK := Lib.hid hK
 have HI := Lib.hid ih
 have HS := Lib.hid hS
 have HP := Lib.hid hP
 have HE := Lib.hid (findN_kids n p i)
 have hpl2 : p.length ≤ 1000 := by omega
 obtain ⟨W1, hW1, hB, hz, hB1, hB2⟩ := two_nodF w (.int .i64 n.tag) (.slice la n.attrs.length lc) (.string ⟨n.text.toArray⟩) (.slice ka n.kids.length kc) (.int .i64 0) (.slice none 0 0) (.string ⟨#[]⟩) (.slice none 0 0)
 have HZ := Lib.hid hz
 have HR := Lib.hid hB2
 have HB := Lib.hid hB
 have HF1 : Hid (FinAt B i o W1) := Lib.hid (hF.below hB)
 have HBz := Lib.hid hBz
 clear hA hK hS hP hF hz hB hkc ih hBz
 unfold maxLen at hkm
 obtain ⟨p1, f1⟩ := blk hB1
 clear hB1 hB2
 unfold nodV
 go_enter Tryz.func30, Tryz.ntmps30
 go_wp2_with fail
 go_loopw [18] (fun j wr => ∃ k c : Nat, k ≤ n.kids.length ∧ j = .int .i64 k ∧ c ≤ 1000000 ∧ Hid (findN n p i = findK (n.kids.drop k) k p c) ∧ Hid (But B W1 wr) ∧ Hid (FinAt B c o wr)) (fun j _ => n.kids.length - (intOf j).toNat)
 case atStart => exact ⟨0, i, Nat.zero_le _, rfl, hi, HE, Lib.hid (But.refl _ _), HF1⟩
 case round =>
  obtain ⟨k, c, hk, rfl, hc, HFk, HBt, HFr⟩ := hrel
  clear p1 f1
  by_cases hlt : k < n.kids.length
  ·obtain ⟨x, hl, _⟩ := getOf n.kids k hlt
   have hBw : But B w wr := (But.of HB.out).trans HBt.out
   obtain ⟨ka', kc', e', _, _, hx⟩ := nods_shapeS (nods_but HK.out (fun b h => (HS.out b h).2) hBw)
   cases e'
   obtain ⟨b, bo, xa, xc, ya, yc, h', rfl, rfl, hSb, hA⟩ := hx k x hl
   obtain ⟨hbz, c0, c1, c2, c3, hAx, hKx⟩ := hA
   have HAX := Lib.hid hAx
   have HKX := Lib.hid hKx
   have HBw := Lib.hid hBw
   have HCl : Hid (∀ W, Below wr.heap.size wr W → Calls Tryz.prog 32 #[.slice pa p.length pc] W fun e w' => ∃ va vc, e = .returned (.slice va p.length vc) ∧ IntsR true w' (fun b => W.heap.size ≤ b) (.slice va p.length vc) p ∧ Below W.heap.size W w') := Lib.hid fun W hW => by
    refine (cloneInt_any _ p false W wr _ (HP.out.stable (rdOf_stable _) (hBw.to fun _ h => h) (fun _ h _ => h)) hW (by omega)).mono ?_
    rintro e w' ⟨v', h1, h2, h3⟩
    obtain ⟨va, vc, rfl⟩ := h2.slice
    exact ⟨va, vc, h1, h2, h3⟩
   have HC : Hid (∀ W, Calls Tryz.prog 37 #[.int .i64 x.tag] W fun e w' => e = .returned (.int .i64 (tagC x.tag)) ∧ Below W.heap.size W w') := Lib.hid fun W => tagsClass_any x.tag W
   obtain ⟨pk, hpk⟩ : ∃ pk, p ++ [(k : Int)] = pk := ⟨_, rfl⟩
   have HPK := Lib.hid hpk
   have HPL : Hid (pk.length = p.length + 1) := Lib.hid (by rw [← hpk]; simp)
   have HW : Hid (∀ W qa qc, Below wr.heap.size wr W → IntsR false W (fun b => b ≠ B) (.slice qa pk.length qc) pk → Calls Tryz.prog 30 #[.pointer (some ⟨B, 0, none⟩), .agg #[.int .i64 x.tag, .slice xa x.attrs.length xc, .string ⟨x.text.toArray⟩, .slice ya x.kids.length yc], .slice qa pk.length qc] W fun e w' => But B W w' ∧ LineOut B h' o S W.heap.size (findN x pk c) e w') :=
    Lib.hid fun W qa qc hW hq => HI.out h' rfl x _ _ _ pk c B o W S (HAX.out.below (rdOf_stable _) hW) (HKX.out.below (rdNod_stable _ _) hW) (fun b hb => ⟨Nat.lt_of_lt_of_le (HS.out b hb).1 (Nat.le_trans HBw.out.size hW.size), (HS.out b hb).2⟩) hq (by have := HPL.out; omega) hc (HFr.out.below hW)
   have HX : Hid (n.kids[k]? = some x) := Lib.hid hl
   have hwz : w.heap.size + 1 < wr.heap.size := Nat.lt_of_lt_of_le HZ.out HBt.out.size
   have hBz : B < w.heap.size := HBz.out
   have HRr : Hid (wr.heap[w.heap.size + 1]? = some (.cells #[.int .i64 0, .slice none 0 0, .string ⟨#[]⟩, .slice none 0 0] 35)) := Lib.hid (HBt.out.heap (by omega) HR.out)
   have hrl : p.length + [(k : Int)].length ≤ 100000000 := by simp; omega
   have i0 : (0 : Int) ≤ (k : Int) := Int.natCast_nonneg _
   have i1 : (k : Int) < (n.kids.length : Int) := by omega
   clear hpk hx hl hBw hAx hKx
   by_cases h3 : tagC x.tag = 3
   ·have h3b : (tagC x.tag == 3) = true := by simp [h3]
    have H3 := Lib.hid h3
    clear h3
    cases c with
    | zero =>
     have HO := Lib.hid (HFk.out.trans (line_hit HX.out p H3.out))
     have HFr : Hid (FinAt B 0 o wr) := Lib.hid HFr.out
     rw [HPK.out] at HO
     clear HFk HW hc
     go_wp2_with (first
      | (go_at_call 32; refine (HCl.out _ (by go_grown)).mono ?_; rintro e w2 ⟨va, vc, rfl, hv2, hb2⟩; have HV2 : Hid (IntsR true w2 (fun b => wr.heap.size + 1 ≤ b) (.slice va p.length vc) p) := Lib.hid (hv2.stable (rdOf_stable _) (Keeps.refl _ _) (fun b h _ => alloc_le h)); have hk2 := Lib.hid (heap_below hb2 (heap_new _ _ rfl)); have hz2 : wr.heap.size + 1 ≤ w2.heap.size := alloc_le hb2.size; have hx2 := Lib.hid (below_from ((Below.refl wr.heap.size wr).alloc (Nat.le_refl _) _) hb2); clear hv2 hb2)
      | (at_builtin; go_must (refine wpList_append_R _ rfl _ _ 27 27 rfl rowInt eltInt (wr.heap.size + 1) (.slice va p.length vc) _ (xs := p) (ys := [(k : Int)]) (news := [.int .i64 k]) rfl rfl (HV2.out.stable (rdOf_stable _) (.all ((Below.refl _ _).alloc (Nat.le_refl _) _)) (fun _ h _ => h)) (by simp; omega) (src_tag _ _ 1 (by simp)) (NewsR.one rfl rfl) hrl ?_); intro v8 w8 hR8 hB8 _ _; rw [HPK.out] at hR8; obtain ⟨na, nc, hne⟩ := hR8.slice; subst hne; have HR8 := Lib.hid hR8; have hx28 := Lib.hid (((Below.refl (wr.heap.size + 1) w2).alloc hz2 _).trans hB8); have hx8 := Lib.hid (hx2.out.trans (hx28.out.mono (by omega))); have hk8 := Lib.hid ((hx28.out.block _ (Nat.lt_succ_self _)).trans hk2.out); obtain ⟨q8, g8⟩ := blk hk8.out; clear hR8 hB8)
      | (go_at_call 37; refine (HC.out _).mono ?_; rintro e w9 ⟨rfl, hb9⟩; have hx9 := Lib.hid (below_from hx8.out hb9); have hk9 := Lib.hid (heap_below hb9 hk8.out); obtain ⟨q9, g9⟩ := blk hk9.out; have hf9 := Lib.hid (heap_below hx9.out HFr.out); obtain ⟨q3, g3⟩ := blk hf9.out; have hr9 := Lib.hid (heap_below hx9.out HRr.out); obtain ⟨q4, g4⟩ := blk hr9.out; have HR9 := Lib.hid (HR8.out.below (rdOf_stable _) hb9); have hz9 : wr.heap.size + 1 < w9.heap.size + 1 := Nat.succ_lt_succ (Nat.lt_of_lt_of_le (Nat.lt_of_succ_le hz2) (Nat.le_trans hx28.out.size hb9.size)); clear hb9))
     go_region
     go_wp2_with fail
     refine bodyPost_ret (results_tnt rfl _ _ (w.heap.size + 1) (.int .i64 x.tag) (.slice xa x.attrs.length xc) (.string ⟨x.text.toArray⟩) (.slice ya x.kids.length yc) rfl (by simp [heap_set, putIn, drew_heapF, hr9.out])) rfl ?_
     refine ⟨(HBw.out.trans (But.of hx9.out)).set4 (Nat.le_succ _) _ _ _ _, ?_⟩
     rw [HO.out]
     have hSz : ¬ S (w.heap.size + 1) := fun hs => by have := (HS.out _ hs).1; omega
     have hf := hf9.out
     have hfe : FinAt B 0 o ((((w9.setCell ⟨w.heap.size + 1, 0, none⟩ (.int .i64 x.tag)).setCell ⟨w.heap.size + 1, 1, none⟩ (.slice xa x.attrs.length xc)).setCell ⟨w.heap.size + 1, 2, none⟩ (.string ⟨x.text.toArray⟩)).setCell ⟨w.heap.size + 1, 3, none⟩ (.slice ya x.kids.length yc)).drew := by
      unfold FinAt
      rw [drew_heapF]
      simp [heap_set, hf, show ¬ (w.heap.size + 1 = B) by omega]
     exact ⟨na, nc, xa, xc, ya, yc, rfl, (HR9.out.read fun _ _ h => h).stable (rdOf_stable _) (keeps4 (by omega) _ _ _ _) (fun b h _ => by omega),
      HAX.out.stable (rdOf_stable _) ((Keeps.all hx9.out).trans (keeps4 hSz _ _ _ _)) (fun _ h _ => h), nods_mono' (Nat.le_succ _) (HKX.out.stable (rdNod_stable _ _) ((Keeps.all hx9.out).trans (keeps4 hSz _ _ _ _)) (fun _ h _ => h)), 0, hfe⟩
    | succ c =>
     have HO := Lib.hid (HFk.out.trans (line_skip HX.out p c H3.out))
     obtain ⟨d, hd⟩ : ∃ d : Int, d = ((c + 1 : Nat) : Int) := ⟨_, rfl⟩
     have HFr : Hid (FinAt B d o wr) := Lib.hid (hd ▸ HFr.out)
     have hd0 : (d == 0) = false := by simp; omega
     have hdw : IntKind.i64.wrap (d - 1) = (c : Int) := by rw [IntKind.wrap_i64]; omega
     clear HFk HW hd
     go_wp2_with (first
      | (go_at_call 32; refine (HCl.out _ (by go_grown)).mono ?_; rintro e w2 ⟨va, vc, rfl, hv2, hb2⟩; have HV2 : Hid (IntsR true w2 (fun b => wr.heap.size + 1 ≤ b) (.slice va p.length vc) p) := Lib.hid (hv2.stable (rdOf_stable _) (Keeps.refl _ _) (fun b h _ => alloc_le h)); have hk2 := Lib.hid (heap_below hb2 (heap_new _ _ rfl)); have hz2 : wr.heap.size + 1 ≤ w2.heap.size := alloc_le hb2.size; have hx2 := Lib.hid (below_from ((Below.refl wr.heap.size wr).alloc (Nat.le_refl _) _) hb2); clear hv2 hb2)
      | (at_builtin; go_must (refine wpList_append_R _ rfl _ _ 27 27 rfl rowInt eltInt (wr.heap.size + 1) (.slice va p.length vc) _ (xs := p) (ys := [(k : Int)]) (news := [.int .i64 k]) rfl rfl (HV2.out.stable (rdOf_stable _) (.all ((Below.refl _ _).alloc (Nat.le_refl _) _)) (fun _ h _ => h)) (by simp; omega) (src_tag _ _ 1 (by simp)) (NewsR.one rfl rfl) hrl ?_); intro v8 w8 hR8 hB8 _ _; rw [HPK.out] at hR8; obtain ⟨na, nc, hne⟩ := hR8.slice; subst hne; have HR8 := Lib.hid hR8; have hx28 := Lib.hid (((Below.refl (wr.heap.size + 1) w2).alloc hz2 _).trans hB8); have hx8 := Lib.hid (hx2.out.trans (hx28.out.mono (by omega))); have hk8 := Lib.hid ((hx28.out.block _ (Nat.lt_succ_self _)).trans hk2.out); obtain ⟨q8, g8⟩ := blk hk8.out; clear hR8 hB8)
      | (go_at_call 37; refine (HC.out _).mono ?_; rintro e w9 ⟨rfl, hb9⟩; have hx9 := Lib.hid (below_from hx8.out hb9); have hk9 := Lib.hid (heap_below hb9 hk8.out); obtain ⟨q9, g9⟩ := blk hk9.out; have hf9 := Lib.hid (heap_below hx9.out HFr.out); obtain ⟨q3, g3⟩ := blk hf9.out; have hr9 := Lib.hid (heap_below hx9.out HRr.out); obtain ⟨q4, g4⟩ := blk hr9.out; have HR9 := Lib.hid (HR8.out.below (rdOf_stable _) hb9); have hz9 : wr.heap.size + 1 < w9.heap.size + 1 := Nat.succ_lt_succ (Nat.lt_of_lt_of_le (Nat.lt_of_succ_le hz2) (Nat.le_trans hx28.out.size hb9.size)); clear hb9))
     go_roundw
     case rel => exact ⟨k + 1, c, hlt, by go_num, by omega, HO, Lib.hid ((HBt.out.trans (But.of (hx9.out))).set _ _), Lib.hid (by unfold FinAt; simp [heap_set, putIn, hf9.out])⟩
     case measure => simp [intOf]; omega
   ·have h3b : (tagC x.tag == 3) = false := by simp [h3]
    have H3 := Lib.hid h3
    clear h3
    cases hr : findN x pk c with
    | inl r =>
     obtain ⟨q, m⟩ := r
     have HO := Lib.hid (HFk.out.trans (line_in HX.out p c H3.out (HPK.out ▸ hr)))
     rw [hr] at HW
     clear HFk hr hc
     go_wp2_with (first
      | (go_at_call 32; refine (HCl.out _ (by go_grown)).mono ?_; rintro e w2 ⟨va, vc, rfl, hv2, hb2⟩; have HV2 : Hid (IntsR true w2 (fun b => wr.heap.size + 1 ≤ b) (.slice va p.length vc) p) := Lib.hid (hv2.stable (rdOf_stable _) (Keeps.refl _ _) (fun b h _ => alloc_le h)); have hk2 := Lib.hid (heap_below hb2 (heap_new _ _ rfl)); have hz2 : wr.heap.size + 1 ≤ w2.heap.size := alloc_le hb2.size; have hx2 := Lib.hid (below_from ((Below.refl wr.heap.size wr).alloc (Nat.le_refl _) _) hb2); clear hv2 hb2)
      | (at_builtin; go_must (refine wpList_append_R _ rfl _ _ 27 27 rfl rowInt eltInt (wr.heap.size + 1) (.slice va p.length vc) _ (xs := p) (ys := [(k : Int)]) (news := [.int .i64 k]) rfl rfl (HV2.out.stable (rdOf_stable _) (.all ((Below.refl _ _).alloc (Nat.le_refl _) _)) (fun _ h _ => h)) (by simp; omega) (src_tag _ _ 1 (by simp)) (NewsR.one rfl rfl) hrl ?_); intro v8 w8 hR8 hB8 _ _; rw [HPK.out] at hR8; obtain ⟨na, nc, hne⟩ := hR8.slice; subst hne; have HR8 := Lib.hid hR8; have hx28 := Lib.hid (((Below.refl (wr.heap.size + 1) w2).alloc hz2 _).trans hB8); have hx8 := Lib.hid (hx2.out.trans (hx28.out.mono (by omega))); have hk8 := Lib.hid ((hx28.out.block _ (Nat.lt_succ_self _)).trans hk2.out); obtain ⟨q8, g8⟩ := blk hk8.out; clear hR8 hB8)
      | (go_at_call 37; refine (HC.out _).mono ?_; rintro e w9 ⟨rfl, hb9⟩; have hx9 := Lib.hid (below_from hx8.out hb9); have hk9 := Lib.hid (heap_below hb9 hk8.out); obtain ⟨q9, g9⟩ := blk hk9.out; have hf9 := Lib.hid (heap_below hx9.out HFr.out); obtain ⟨q3, g3⟩ := blk hf9.out; have hr9 := Lib.hid (heap_below hx9.out HRr.out); obtain ⟨q4, g4⟩ := blk hr9.out; have HR9 := Lib.hid (HR8.out.below (rdOf_stable _) hb9); have hz9 : wr.heap.size + 1 < w9.heap.size + 1 := Nat.succ_lt_succ (Nat.lt_of_lt_of_le (Nat.lt_of_succ_le hz2) (Nat.le_trans hx28.out.size hb9.size)); clear hb9)
      | (go_at_call 30; (refine (HW.out _ _ _ hx9.out ((HR9.out.read fun _ _ h => h).stable (rdOf_stable _) (Keeps.refl _ _) (fun b h _ => by omega))).mono ?_; rintro e w10 ⟨hbt, qa, qc, ma, mc, mka, mkc, rfl, hq, hma, hmk, fj, hfj⟩; have HFJ := Lib.hid hfj; have HBT := Lib.hid hbt; have HQ := Lib.hid hq; have HMA := Lib.hid hma; have HMK := Lib.hid hmk; have hz10 : w.heap.size + 1 < w10.heap.size := Nat.lt_of_lt_of_le (Nat.lt_trans hwz (Nat.lt_of_succ_lt_succ hz9)) hbt.size; have hr10 := Lib.hid (hbt.heap (by omega) hr9.out); obtain ⟨q5, g5⟩ := blk hr10.out; have hne10 : ¬ (w.heap.size + 1 = w10.heap.size) := Nat.ne_of_lt hz10; clear hbt hq hma hmk hfj)))
     go_region
     go_wp2_with fail
     refine bodyPost_ret (results_tnt rfl _ _ (w.heap.size + 1) (.int .i64 m.tag) (.slice ma m.attrs.length mc) (.string ⟨m.text.toArray⟩) (.slice mka m.kids.length mkc) rfl (by rw [drew_heapF]; exact heap_old _ _ (by simp [heap_set, putIn, hr10.out]))) rfl ?_
     refine ⟨((((((((HBw.out.trans (But.of hx9.out)).trans HBT.out).setN (Nat.le_succ _) 0 _).setN (Nat.le_succ _) 1 _).setN (Nat.le_succ _) 2 _).setN (Nat.le_succ _) 3 _).alloc _).drew), ?_⟩
     rw [HO.out]
     have hSz : ¬ S (w.heap.size + 1) := fun hs => by have := (HS.out _ hs).1; omega
     have hf := HFJ.out
     unfold FinAt at hf
     have hfe : FinAt B fj o (((((w10.setCell ⟨w.heap.size + 1, 0, none⟩ (.int .i64 m.tag)).setCell ⟨w.heap.size + 1, 1, none⟩ (.slice ma m.attrs.length mc)).setCell ⟨w.heap.size + 1, 2, none⟩ (.string ⟨m.text.toArray⟩)).setCell ⟨w.heap.size + 1, 3, none⟩ (.slice mka m.kids.length mkc)).alloc (.cells #[.int .i64 m.tag, .slice ma m.attrs.length mc, .string ⟨m.text.toArray⟩, .slice mka m.kids.length mkc] 35)).drew := by
      unfold FinAt
      rw [drew_heapF]
      exact heap_old _ _ (by simp [heap_set, hf, show ¬ (w.heap.size + 1 = B) by omega])
     exact ⟨qa, qc, ma, mc, mka, mkc, rfl, HQ.out.stable (rdOf_stable _) (keeps4a (by omega) _ _ _ _ _) (fun b h _ => by omega),
      HMA.out.stable (rdOf_stable _) (keeps4a hSz _ _ _ _ _) (fun _ h _ => h), nods_mono' (Nat.le_succ _) (HMK.out.stable (rdNod_stable _ _) (keeps4a hSz _ _ _ _ _) (fun _ h _ => h)), fj, hfe⟩
    | inr c2 =>
     have hc2 := findN_le x pk c c2 hr
     have HO := Lib.hid (HFk.out.trans (line_past HX.out p c c2 H3.out (HPK.out ▸ hr)))
     rw [hr] at HW
     clear HFk hr
     go_wp2_with (first
      | (go_at_call 32; refine (HCl.out _ (by go_grown)).mono ?_; rintro e w2 ⟨va, vc, rfl, hv2, hb2⟩; have HV2 : Hid (IntsR true w2 (fun b => wr.heap.size + 1 ≤ b) (.slice va p.length vc) p) := Lib.hid (hv2.stable (rdOf_stable _) (Keeps.refl _ _) (fun b h _ => alloc_le h)); have hk2 := Lib.hid (heap_below hb2 (heap_new _ _ rfl)); have hz2 : wr.heap.size + 1 ≤ w2.heap.size := alloc_le hb2.size; have hx2 := Lib.hid (below_from ((Below.refl wr.heap.size wr).alloc (Nat.le_refl _) _) hb2); clear hv2 hb2)
      | (at_builtin; go_must (refine wpList_append_R _ rfl _ _ 27 27 rfl rowInt eltInt (wr.heap.size + 1) (.slice va p.length vc) _ (xs := p) (ys := [(k : Int)]) (news := [.int .i64 k]) rfl rfl (HV2.out.stable (rdOf_stable _) (.all ((Below.refl _ _).alloc (Nat.le_refl _) _)) (fun _ h _ => h)) (by simp; omega) (src_tag _ _ 1 (by simp)) (NewsR.one rfl rfl) hrl ?_); intro v8 w8 hR8 hB8 _ _; rw [HPK.out] at hR8; obtain ⟨na, nc, hne⟩ := hR8.slice; subst hne; have HR8 := Lib.hid hR8; have hx28 := Lib.hid (((Below.refl (wr.heap.size + 1) w2).alloc hz2 _).trans hB8); have hx8 := Lib.hid (hx2.out.trans (hx28.out.mono (by omega))); have hk8 := Lib.hid ((hx28.out.block _ (Nat.lt_succ_self _)).trans hk2.out); obtain ⟨q8, g8⟩ := blk hk8.out; clear hR8 hB8)
      | (go_at_call 37; refine (HC.out _).mono ?_; rintro e w9 ⟨rfl, hb9⟩; have hx9 := Lib.hid (below_from hx8.out hb9); have hk9 := Lib.hid (heap_below hb9 hk8.out); obtain ⟨q9, g9⟩ := blk hk9.out; have hf9 := Lib.hid (heap_below hx9.out HFr.out); obtain ⟨q3, g3⟩ := blk hf9.out; have hr9 := Lib.hid (heap_below hx9.out HRr.out); obtain ⟨q4, g4⟩ := blk hr9.out; have HR9 := Lib.hid (HR8.out.below (rdOf_stable _) hb9); have hz9 : wr.heap.size + 1 < w9.heap.size + 1 := Nat.succ_lt_succ (Nat.lt_of_lt_of_le (Nat.lt_of_succ_le hz2) (Nat.le_trans hx28.out.size hb9.size)); clear hb9)
      | (go_at_call 30; (refine (HW.out _ _ _ hx9.out ((HR9.out.read fun _ _ h => h).stable (rdOf_stable _) (Keeps.refl _ _) (fun b h _ => by omega))).mono ?_; rintro e w10 ⟨hbt, rfl, hfo⟩; have HBT := Lib.hid hbt; have HFO := Lib.hid hfo; clear hbt hfo)))
     go_roundw
     case rel => exact ⟨k + 1, c2, hlt, by go_num, by omega, HO, Lib.hid (((HBt.out.trans (But.of hx9.out)).trans HBT.out).alloc _), Lib.hid (heap_old _ _ HFO.out)⟩
     case measure => simp [intOf]; omega
  ·obtain rfl : k = n.kids.length := by omega
   have HO := Lib.hid (HFk.out.trans (line_end n.kids p c))
   have hwz : w.heap.size + 1 < wr.heap.size := Nat.lt_of_lt_of_le HZ.out HBt.out.size
   have hBz : B < w.heap.size := HBz.out
   have hRr : Hid (wr.heap[w.heap.size + 1]? = some (.cells #[.int .i64 0, .slice none 0 0, .string ⟨#[]⟩, .slice none 0 0] 35)) := Lib.hid (HBt.out.heap (by omega) HR.out)
   obtain ⟨q4, g4⟩ := blk hRr.out
   go_wp2_with fail
   refine bodyPost_ret (results_tnt rfl _ _ (w.heap.size + 1) (.int .i64 0) (.slice none 0 0) (.string ⟨#[]⟩) (.slice none 0 0) rfl (by simp [heap_set, putIn, hRr.out])) rfl ?_
   refine ⟨((((((But.of HB.out).trans HBt.out).setN (Nat.le_succ _) 0 _).setN (Nat.le_succ _) 1 _).setN (Nat.le_succ _) 2 _).setN (Nat.le_succ _) 3 _), ?_⟩
   rw [HO.out]
   have hf := HFr.out
   unfold FinAt at hf
   exact ⟨rfl, by unfold FinAt; simp [heap_set, putIn, hf, show ¬ (w.heap.size + 1 = B) by omega]⟩
theorem line_all : ∀ h, LineAt h
 | 0 => line_step 0 (fun _ e => by cases e)
 | h + 1 => line_step (h + 1) (fun h' e => by cases e; exact line_all h)
end Go.Proofs.YteognfhemmogpaaGreatDoor
namespace Go.Proofs.Qw
open Go.RowKit
mutual
def txtSz : Nod → Nat
 | .mk _ _ x ks => x.length + txtSzs ks
def txtSzs : List Nod → Nat
 | [] => 0
 | k :: ks => txtSz k + txtSzs ks
end
theorem txt_mem : ∀ {l : List Nod} {n : Nod}, n ∈ l → txtSz n ≤ txtSzs l
 | k :: ks, n, h => by
  rw [txtSzs]
  rcases List.mem_cons.1 h with rfl | h
  ·omega
  ·have := txt_mem h; omega
theorem txt_kids (n : Nod) : txtSz n = n.text.length + txtSzs n.kids := by cases n; rw [txtSz]; rfl
theorem txt_app (a b : List Nod) : txtSzs (a ++ b) = txtSzs a + txtSzs b := by
 induction a with
 | nil => simp [txtSzs]
 | cons x a ih => rw [List.cons_append, txtSzs, txtSzs, ih]; omega
theorem txt_flat {α : Type} (f : α → List Nod) (g : α → Nat) : ∀ l : List α, (∀ x ∈ l, txtSzs (f x) ≤ 4 * g x) → txtSzs (l.flatMap f) ≤ 4 * (l.map g).sum
 | [], _ => by simp [txtSzs]
 | x :: l, h => by
  rw [List.flatMap_cons, txt_app, List.map_cons, List.sum_cons]
  have h1 := h x (by simp)
  have h2 := txt_flat f g l (fun y hy => h y (by simp [hy]))
  omega
theorem enc_len (c : Int) : (Lib.encodeRune c).length ≤ 4 := by
 unfold Lib.encodeRune Lib.encodeRuneZ
 repeat' split
 all_goals simp
theorem txtL_len (l : List Int) : (txtL l).length ≤ 4 * l.length := by
 induction l with
 | nil => simp [txtL]
 | cons c l ih =>
  unfold txtL at *
  rw [List.flatMap_cons, List.length_append, List.length_cons]
  have := enc_len c
  omega
theorem gr_txt : ∀ (ks : List (Cel → Option Wr)) (l : List Cel), txtSzs (gr ks l) ≤ 4 * l.length
 | [], l => by
  unfold gr leavesN
  have h := parts_sum textR l
  have h1 := txt_flat (fun p : List Cel => [leafP p]) List.length (partsBy textR l) (fun p hp => by
   have hpos := List.length_pos_iff.2 (parts_ne _ l.length l (Nat.le_refl _) p hp)
   rw [txtSzs, txtSzs]
   unfold leafP
   split
   ·simp [brN, txtSz, txtSzs]
   ·unfold txtN
    rw [txtSz, txtSzs]
    have := txtL_len (p.map (·.r))
    rw [List.length_map] at this
    omega)
  have e : ∀ ps : List (List Cel), ps.flatMap (fun p => [leafP p]) = ps.map leafP := fun ps => by induction ps with | nil => rfl | cons a ps ih => rw [List.flatMap_cons, ih]; rfl
  rw [e, h] at h1
  exact h1
 | k :: ks, l => by
  unfold gr
  have h := parts_sum (fun a b => decide (k a = k b)) l
  have h1 := txt_flat (fun p : List Cel => wrapO (k (p.headD default)) (gr ks p)) List.length (partsBy (fun a b => decide (k a = k b)) l) (fun p hp => by
   have hg := gr_txt ks p
   cases k (p.headD default) with
   | none => exact hg
   | some w => simp only [wrapO]; rw [txtSzs, txtSz, txtSzs]; simp only [List.length_nil]; omega)
  rw [h] at h1
  exact h1
mutual
theorem leafF_le : ∀ (n : Nod) (p : List Int) (c d : Int), leafF n p c = .inr d → 1 ≤ c → 1 ≤ d ∧ d ≤ c
 | .mk _ _ _ ks, p, c, d, h, hc => leafK_le ks 0 p c d (by rw [leafF] at h; exact h) hc
theorem leafK_le : ∀ (ks : List Nod) (t : Nat) (p : List Int) (c d : Int), leafK ks t p c = .inr d → 1 ≤ c → 1 ≤ d ∧ d ≤ c
 | [], t, p, c, d, h, hc => by rw [leafK_nil] at h; cases h; omega
 | k :: ks, t, p, c, d, h, hc => by
  rw [leafK_cons] at h
  split at h
  ·split at h
   ·cases h
   ·have := leafK_le ks _ _ _ _ h (by omega)
    omega
  ·split at h
   ·cases hr : leafF k (p ++ [(t : Int)]) c with
    | inl r => rw [hr] at h; cases h
    | inr c2 =>
     rw [hr] at h
     have h1 := leafF_le k _ _ _ hr hc
     have h2 := leafK_le ks _ _ _ _ h h1.1
     omega
   ·split at h
    ·cases h
    ·have := leafK_le ks _ _ _ _ h (by omega)
     omega
end
end Go.Proofs.Qw
namespace Go.Proofs.YteognfhemmogpaaGreatDoor
open Go.RowKit
open Go.Proofs.Qw
attribute [local go_sem] Oper.semAt_some
theorem results_pt {fn : Func} {p u : Tmp} (h : fn.results = #[.cell p 45, .tmp u]) (tmps : Array Value) (w : World) (B : Nat) (x y : Value) (hp : tmps.getD p undef = .pointer (some ⟨B, 0, none⟩)) (hB : w.heap[B]? = some (.cells #[x, y] 45)) :
  (results fn tmps).run Tryz.prog w = .ok (.tuple #[.agg #[x, y], tmps.getD u undef]) w := by
 have hp' : tmps[p]?.getD undef = .pointer (some ⟨B, 0, none⟩) := by simpa using hp
 have h1 := run_loadVar_row (P := Tryz.prog) w B 45 45 _ _ _ hB Tryz.underlying45 rfl (by kernel_rfl)
 simp [results, h, hp', asAddr, h1]
theorem node_point (w : World) (x1 x2 x3 x4 y1 y2 : Value) : ∃ W1, (w.alloc (.cells #[x1, x2, x3, x4] 35)).alloc (.cells #[y1, y2] 45) = W1 ∧ Below w.heap.size w W1 ∧ w.heap.size + 1 < W1.heap.size ∧ W1.heap[w.heap.size]? = some (.cells #[x1, x2, x3, x4] 35) ∧ W1.heap[w.heap.size + 1]? = some (.cells #[y1, y2] 45) :=
 ⟨_, rfl, ((Below.refl _ _).alloc (Nat.le_refl _) _).alloc (by simp) _, by simp, heap_old _ _ (heap_new _ _ rfl), heap_new _ _ (by simp)⟩
theorem keeps2 {S : Nat → Prop} {w : World} {Z : Nat} (hS : ¬ S Z) (x y : Value) : Keeps S w ((w.setCell ⟨Z, 0, none⟩ x).setCell ⟨Z, 1, none⟩ y) :=
 ((Keeps.refl S w).set hS x).set hS y
def LeafOut (B : Nat) (i : Int) (S : Nat → Prop) (r : (List Int × Int) ⊕ Int) (e : Ending) (w' : World) : Prop := match r with
 | .inl (q, t) => ∃ qa qc, e = .returned (.tuple #[.agg #[.slice qa q.length qc, .int .i64 t], .bool true]) ∧ IntsR false w' S (.slice qa q.length qc) q
 | .inr j => e = .returned (.tuple #[.agg #[.slice none 0 0, .int .i64 0], .bool false]) ∧ FinAt B i j w'
def LeafAt (h : Nat) : Prop := ∀ (n : Nod) (a k pv : Value) (p : List Int) (c : Int) (B : Nat) (i : Int) (w : World) (S P : Nat → Prop), AttsR false w S a n.attrs → NodsR false h w S k n.kids → (∀ b, S b → b < w.heap.size ∧ b ≠ B) →
  IntsR false w P pv p → (∀ b, P b → b < w.heap.size ∧ b ≠ B) → p.length + h ≤ 1000 → 1 ≤ c → c ≤ 1000000 → txtSz n ≤ 1000000 → FinAt B i c w →
  Calls Tryz.prog 31 #[.pointer (some ⟨B, 0, none⟩), nodV n a k, pv] w fun e w' => But B w w' ∧ LeafOut B i (fun b => P b ∨ w.heap.size ≤ b) (leafF n p c) e w'
set_option maxRecDepth 100000 in
set_option maxHeartbeats 4000000 in
theorem leaf_step (h : Nat) (ih : ∀ h', h = h' + 1 → LeafAt h') : LeafAt h := by
 intro n a kv pv p c0 B i w S P hA hK hS hP hPb hpl hc1 hc2 htx hF
 obtain ⟨la, lc, rfl⟩ := hA.slice
 obtain ⟨ka, kc, rfl, hkc, hkm, _⟩ := nods_shapeS hK
 obtain ⟨pa, pc, rfl⟩ := hP.slice
 have hBz : B < w.heap.size := (Array.getElem?_eq_some_iff.1 hF).1
 have HK := Lib.hid hK
 have HI := Lib.hid ih
 have HS := Lib.hid hS
 have HP := Lib.hid hP
 have HPb := Lib.hid hPb
 have HE := Lib.hid (leafF_kids n p c0)
 have HTx := Lib.hid htx
 have hpl2 : p.length ≤ 1000 := by omega
 obtain ⟨W1, hW1, hB, hz, hB1, hB2⟩ := node_point w (.int .i64 n.tag) (.slice la n.attrs.length lc) (.string ⟨n.text.toArray⟩) (.slice ka n.kids.length kc) (.slice none 0 0) (.int .i64 0)
 have HZ := Lib.hid hz
 have HR := Lib.hid hB2
 have HB := Lib.hid hB
 have HF1 : Hid (FinAt B i c0 W1) := Lib.hid (hF.below hB)
 have HBz := Lib.hid hBz
 clear hA hK hS hP hF hz hB hkc ih hBz hPb htx
 unfold maxLen at hkm
 obtain ⟨p1, f1⟩ := blk hB1
 clear hB1 hB2
 unfold nodV
 go_enter Tryz.func31, Tryz.ntmps31
 go_wp2_with fail
 go_loopw [17] (fun j wr => ∃ (k : Nat) (c : Int), k ≤ n.kids.length ∧ j = .int .i64 k ∧ 1 ≤ c ∧ c ≤ 1000000 ∧ Hid (leafF n p c0 = leafK (n.kids.drop k) k p c) ∧ Hid (But B W1 wr) ∧ Hid (FinAt B i c wr)) (fun j _ => n.kids.length - (intOf j).toNat)
 case atStart => exact ⟨0, c0, Nat.zero_le _, rfl, hc1, hc2, HE, Lib.hid (But.refl _ _), HF1⟩
 case round =>
  obtain ⟨k, c, hk, rfl, hc1, hc2, HFk, HBt, HFr⟩ := hrel
  clear p1 f1
  by_cases hlt : k < n.kids.length
  ·obtain ⟨x, hl, _⟩ := getOf n.kids k hlt
   have hBw : But B w wr := (But.of HB.out).trans HBt.out
   obtain ⟨ka', kc', e', _, _, hx⟩ := nods_shapeS (nods_but HK.out (fun b h => (HS.out b h).2) hBw)
   cases e'
   obtain ⟨b, bo, xa, xc, ya, yc, h', rfl, rfl, hSb, hA⟩ := hx k x hl
   obtain ⟨hbz, c0, c1, c2, c3, hAx, hKx⟩ := hA
   have HAX := Lib.hid hAx
   have HKX := Lib.hid hKx
   have HBw := Lib.hid hBw
   have hxt : txtSz x ≤ 1000000 := by
    have h1 := txt_mem (List.mem_of_getElem? hl)
    have h2 := HTx.out
    rw [txt_kids] at h2
    omega
   have hxs : x.text.length ≤ 1000000 := by rw [txt_kids] at hxt; omega
   have HCl : Hid (∀ W, Below wr.heap.size wr W → Calls Tryz.prog 32 #[.slice pa p.length pc] W fun e w' => ∃ va vc, e = .returned (.slice va p.length vc) ∧ IntsR true w' (fun b => W.heap.size ≤ b) (.slice va p.length vc) p ∧ Below W.heap.size W w') := Lib.hid fun W hW => by
    refine (cloneInt_any _ p false W wr _ (HP.out.stable (rdOf_stable _) (hBw.to fun b h => (HPb.out b h).2) (fun _ h _ => h)) hW (by omega)).mono ?_
    rintro e w' ⟨v', h1, h2, h3⟩
    obtain ⟨va, vc, rfl⟩ := h2.slice
    exact ⟨va, vc, h1, h2, h3⟩
   obtain ⟨sz, hsz⟩ : ∃ sz : Nat, (runesB ⟨x.text.toArray⟩).length = sz := ⟨_, rfl⟩
   have HC : Hid (∀ W, Calls Tryz.prog 56 #[.string ⟨x.text.toArray⟩] W fun e w' => e = .returned (.int .i64 sz) ∧ Below W.heap.size W w') := Lib.hid fun W => hsz ▸ charsCount_any ⟨x.text.toArray⟩ W (by show x.text.toArray.size ≤ _; simp; omega)
   have HSZ := Lib.hid hsz
   obtain ⟨pk, hpk⟩ : ∃ pk, p ++ [(k : Int)] = pk := ⟨_, rfl⟩
   have HPK := Lib.hid hpk
   have HPL : Hid (pk.length = p.length + 1) := Lib.hid (by rw [← hpk]; simp)
   have HW : Hid (∀ W qa qc (P' : Nat → Prop), Below wr.heap.size wr W → IntsR false W P' (.slice qa pk.length qc) pk → (∀ b, P' b → b < W.heap.size ∧ b ≠ B) → Calls Tryz.prog 31 #[.pointer (some ⟨B, 0, none⟩), .agg #[.int .i64 x.tag, .slice xa x.attrs.length xc, .string ⟨x.text.toArray⟩, .slice ya x.kids.length yc], .slice qa pk.length qc] W fun e w' => But B W w' ∧ LeafOut B i (fun b => P' b ∨ W.heap.size ≤ b) (leafF x pk c) e w') :=
    Lib.hid fun W qa qc P' hW hq hqb => HI.out h' rfl x _ _ _ pk c B i W S P' (HAX.out.below (rdOf_stable _) hW) (HKX.out.below (rdNod_stable _ _) hW) (fun b hb => ⟨Nat.lt_of_lt_of_le (HS.out b hb).1 (Nat.le_trans HBw.out.size hW.size), (HS.out b hb).2⟩) hq hqb (by have := HPL.out; omega) hc1 hc2 hxt (HFr.out.below hW)
   have HX : Hid (n.kids[k]? = some x) := Lib.hid hl
   have hwz : w.heap.size + 1 < wr.heap.size := Nat.lt_of_lt_of_le HZ.out HBt.out.size
   have hBz : B < w.heap.size := HBz.out
   have HRr : Hid (wr.heap[w.heap.size + 1]? = some (.cells #[.slice none 0 0, .int .i64 0] 45)) := Lib.hid (HBt.out.heap (by omega) HR.out)
   have hrl : p.length + [(k : Int)].length ≤ 100000000 := by simp; omega
   have i0 : (0 : Int) ≤ (k : Int) := Int.natCast_nonneg _
   have i1 : (k : Int) < (n.kids.length : Int) := by omega
   have hPz : ¬ P (w.heap.size + 1) := fun hs => by have := (HPb.out _ hs).1; omega
   have HPz := Lib.hid hPz
   clear hpk hx hl hBw hAx hKx hxt hxs hsz hPz
   by_cases h16 : x.tag = 16
   ·have hb16 : (x.tag == 16) = true := by simp [h16]
    have H16 := Lib.hid h16
    clear h16
    by_cases hc : c = 1
    ·subst hc
     have HO := Lib.hid (HFk.out.trans (leaf_brk HX.out p H16.out))
     have hkw : IntKind.i64.wrap ((k : Int) + 1) = (k : Int) + 1 := by rw [IntKind.wrap_i64]; omega
     clear HFk HW hc1 hc2
     go_wp2_with (first
      | (go_at_call 32; refine (HCl.out _ (by go_grown)).mono ?_; rintro e w2 ⟨va, vc, rfl, hv2, hb2⟩; have HV2 : Hid (IntsR true w2 (fun b => wr.heap.size + 1 ≤ b) (.slice va p.length vc) p) := Lib.hid (hv2.stable (rdOf_stable _) (Keeps.refl _ _) (fun b h _ => alloc_le h)); have hk2 := Lib.hid (heap_below hb2 (heap_new _ _ rfl)); have hz2 : wr.heap.size + 1 ≤ w2.heap.size := alloc_le hb2.size; have hx2 := Lib.hid (below_from ((Below.refl wr.heap.size wr).alloc (Nat.le_refl _) _) hb2); clear hv2 hb2)
      | (at_builtin; go_must (refine wpList_append_R _ rfl _ _ 27 27 rfl rowInt eltInt (wr.heap.size + 1) (.slice va p.length vc) _ (xs := p) (ys := [(k : Int)]) (news := [.int .i64 k]) rfl rfl (HV2.out.stable (rdOf_stable _) (.all ((Below.refl _ _).alloc (Nat.le_refl _) _)) (fun _ h _ => h)) (by simp; omega) (src_tag _ _ 1 (by simp)) (NewsR.one rfl rfl) hrl ?_); intro v8 w8 hR8 hB8 _ _; rw [HPK.out] at hR8; obtain ⟨na, nc, hne⟩ := hR8.slice; subst hne; have HR8 := Lib.hid hR8; have hx28 := Lib.hid (((Below.refl (wr.heap.size + 1) w2).alloc hz2 _).trans hB8); have hx8 := Lib.hid (hx2.out.trans (hx28.out.mono (by omega))); have hk8 := Lib.hid ((hx28.out.block _ (Nat.lt_succ_self _)).trans hk2.out); obtain ⟨q8, g8⟩ := blk hk8.out; clear hR8 hB8)
      | (go_at_call 56; refine (HC.out _).mono ?_; rintro e w9 ⟨rfl, hb9⟩; have hx9 := Lib.hid (below_from hx8.out hb9); have hk9 := Lib.hid (heap_below hb9 hk8.out); obtain ⟨q9, g9⟩ := blk hk9.out; have hf9 := Lib.hid (heap_below hx9.out HFr.out); obtain ⟨q3, g3⟩ := blk hf9.out; have hr9 := Lib.hid (heap_below hx9.out HRr.out); obtain ⟨q4, g4⟩ := blk hr9.out; have HR9 := Lib.hid (HR8.out.below (rdOf_stable _) hb9); have hz9 : wr.heap.size + 1 < w9.heap.size + 1 := Nat.succ_lt_succ (Nat.lt_of_lt_of_le (Nat.lt_of_succ_le hz2) (Nat.le_trans hx28.out.size hb9.size)); clear hb9))
     refine bodyPost_ret (results_pt rfl _ _ (w.heap.size + 1) (.slice pa p.length pc) (.int .i64 ((k : Int) + 1)) rfl (by simp [heap_set, putIn, hr9.out])) rfl ?_
     refine ⟨((HBw.out.trans (But.of hx9.out)).setN (Nat.le_succ _) 0 _).setN (Nat.le_succ _) 1 _, ?_⟩
     rw [HO.out]
     refine ⟨pa, pc, rfl, HP.out.stable (rdOf_stable _) (((HBw.out.trans (But.of hx9.out)).to fun b h => (HPb.out b h).2).trans (keeps2 HPz.out _ _)) (fun _ h _ => .inl h)⟩
    ·have HO := Lib.hid (HFk.out.trans (leaf_brk2 HX.out p c H16.out hc))
     have hc0 : (c == 1) = false := by simp [hc]
     have hcw : IntKind.i64.wrap (c - 1) = c - 1 := by rw [IntKind.wrap_i64]; omega
     have hcc : 1 ≤ c - 1 ∧ c - 1 ≤ 1000000 := by omega
     have HCC := Lib.hid hcc
     clear HFk HW hc hcc
     go_wp2_with (first
      | (go_at_call 32; refine (HCl.out _ (by go_grown)).mono ?_; rintro e w2 ⟨va, vc, rfl, hv2, hb2⟩; have HV2 : Hid (IntsR true w2 (fun b => wr.heap.size + 1 ≤ b) (.slice va p.length vc) p) := Lib.hid (hv2.stable (rdOf_stable _) (Keeps.refl _ _) (fun b h _ => alloc_le h)); have hk2 := Lib.hid (heap_below hb2 (heap_new _ _ rfl)); have hz2 : wr.heap.size + 1 ≤ w2.heap.size := alloc_le hb2.size; have hx2 := Lib.hid (below_from ((Below.refl wr.heap.size wr).alloc (Nat.le_refl _) _) hb2); clear hv2 hb2)
      | (at_builtin; go_must (refine wpList_append_R _ rfl _ _ 27 27 rfl rowInt eltInt (wr.heap.size + 1) (.slice va p.length vc) _ (xs := p) (ys := [(k : Int)]) (news := [.int .i64 k]) rfl rfl (HV2.out.stable (rdOf_stable _) (.all ((Below.refl _ _).alloc (Nat.le_refl _) _)) (fun _ h _ => h)) (by simp; omega) (src_tag _ _ 1 (by simp)) (NewsR.one rfl rfl) hrl ?_); intro v8 w8 hR8 hB8 _ _; rw [HPK.out] at hR8; obtain ⟨na, nc, hne⟩ := hR8.slice; subst hne; have HR8 := Lib.hid hR8; have hx28 := Lib.hid (((Below.refl (wr.heap.size + 1) w2).alloc hz2 _).trans hB8); have hx8 := Lib.hid (hx2.out.trans (hx28.out.mono (by omega))); have hk8 := Lib.hid ((hx28.out.block _ (Nat.lt_succ_self _)).trans hk2.out); obtain ⟨q8, g8⟩ := blk hk8.out; clear hR8 hB8)
      | (go_at_call 56; refine (HC.out _).mono ?_; rintro e w9 ⟨rfl, hb9⟩; have hx9 := Lib.hid (below_from hx8.out hb9); have hk9 := Lib.hid (heap_below hb9 hk8.out); obtain ⟨q9, g9⟩ := blk hk9.out; have hf9 := Lib.hid (heap_below hx9.out HFr.out); obtain ⟨q3, g3⟩ := blk hf9.out; have hr9 := Lib.hid (heap_below hx9.out HRr.out); obtain ⟨q4, g4⟩ := blk hr9.out; have HR9 := Lib.hid (HR8.out.below (rdOf_stable _) hb9); have hz9 : wr.heap.size + 1 < w9.heap.size + 1 := Nat.succ_lt_succ (Nat.lt_of_lt_of_le (Nat.lt_of_succ_le hz2) (Nat.le_trans hx28.out.size hb9.size)); clear hb9))
     go_roundw
     case rel => exact ⟨k + 1, _, hlt, by go_num, HCC.out.1, HCC.out.2, HO, Lib.hid ((HBt.out.trans (But.of hx9.out)).set _ _), Lib.hid (by unfold FinAt; simp [heap_set, putIn, hf9.out])⟩
     case measure => simp [intOf]; omega
   ·have hb16 : (x.tag == 16) = false := by simp [h16]
    have H16 := Lib.hid h16
    clear h16
    by_cases h0 : x.tag = 0
    ·have hb0 : (x.tag == 0) = true := by simp [h0]
     have hb02 : (x.tag != 0) = false := by simp [h0]
     have H0 := Lib.hid h0
     clear h0 HW
     by_cases hcs : c ≤ (sz : Int)
     ·have HO := Lib.hid (HFk.out.trans (leaf_text HX.out p c H0.out (by rw [HSZ.out]; exact hcs)))
      rw [HPK.out] at HO
      have hd : decide (c ≤ (sz : Int)) = true := decide_eq_true hcs
      clear HFk hcs
      go_wp2_with (first
       | (go_at_call 32; refine (HCl.out _ (by go_grown)).mono ?_; rintro e w2 ⟨va, vc, rfl, hv2, hb2⟩; have HV2 : Hid (IntsR true w2 (fun b => wr.heap.size + 1 ≤ b) (.slice va p.length vc) p) := Lib.hid (hv2.stable (rdOf_stable _) (Keeps.refl _ _) (fun b h _ => alloc_le h)); have hk2 := Lib.hid (heap_below hb2 (heap_new _ _ rfl)); have hz2 : wr.heap.size + 1 ≤ w2.heap.size := alloc_le hb2.size; have hx2 := Lib.hid (below_from ((Below.refl wr.heap.size wr).alloc (Nat.le_refl _) _) hb2); clear hv2 hb2)
       | (at_builtin; go_must (refine wpList_append_R _ rfl _ _ 27 27 rfl rowInt eltInt (wr.heap.size + 1) (.slice va p.length vc) _ (xs := p) (ys := [(k : Int)]) (news := [.int .i64 k]) rfl rfl (HV2.out.stable (rdOf_stable _) (.all ((Below.refl _ _).alloc (Nat.le_refl _) _)) (fun _ h _ => h)) (by simp; omega) (src_tag _ _ 1 (by simp)) (NewsR.one rfl rfl) hrl ?_); intro v8 w8 hR8 hB8 _ _; rw [HPK.out] at hR8; obtain ⟨na, nc, hne⟩ := hR8.slice; subst hne; have HR8 := Lib.hid hR8; have hx28 := Lib.hid (((Below.refl (wr.heap.size + 1) w2).alloc hz2 _).trans hB8); have hx8 := Lib.hid (hx2.out.trans (hx28.out.mono (by omega))); have hk8 := Lib.hid ((hx28.out.block _ (Nat.lt_succ_self _)).trans hk2.out); obtain ⟨q8, g8⟩ := blk hk8.out; clear hR8 hB8)
       | (go_at_call 56; refine (HC.out _).mono ?_; rintro e w9 ⟨rfl, hb9⟩; have hx9 := Lib.hid (below_from hx8.out hb9); have hk9 := Lib.hid (heap_below hb9 hk8.out); obtain ⟨q9, g9⟩ := blk hk9.out; have hf9 := Lib.hid (heap_below hx9.out HFr.out); obtain ⟨q3, g3⟩ := blk hf9.out; have hr9 := Lib.hid (heap_below hx9.out HRr.out); obtain ⟨q4, g4⟩ := blk hr9.out; have HR9 := Lib.hid (HR8.out.below (rdOf_stable _) hb9); have hz9 : wr.heap.size + 1 < w9.heap.size + 1 := Nat.succ_lt_succ (Nat.lt_of_lt_of_le (Nat.lt_of_succ_le hz2) (Nat.le_trans hx28.out.size hb9.size)); clear hb9))
      refine bodyPost_ret (results_pt rfl _ _ (w.heap.size + 1) (.slice na pk.length nc) (.int .i64 c) rfl (by simp [heap_set, putIn, hr9.out])) rfl ?_
      refine ⟨((HBw.out.trans (But.of hx9.out)).setN (Nat.le_succ _) 0 _).setN (Nat.le_succ _) 1 _, ?_⟩
      rw [HO.out]
      exact ⟨na, nc, rfl, (HR9.out.read fun _ _ h => h).stable (rdOf_stable _) (keeps2 (by omega) _ _) (fun b h _ => .inr (by omega))⟩
     ·have HO := Lib.hid (HFk.out.trans (leaf_text2 HX.out p c H0.out (by rw [HSZ.out]; exact hcs)))
      rw [HSZ.out] at HO
      have hd : decide (c ≤ (sz : Int)) = false := decide_eq_false hcs
      have hcw : IntKind.i64.wrap (c - (sz : Int)) = c - (sz : Int) := by rw [IntKind.wrap_i64]; omega
      have hcc : 1 ≤ c - (sz : Int) ∧ c - (sz : Int) ≤ 1000000 := by omega
      have HCC := Lib.hid hcc
      clear HFk hcs hcc
      go_wp2_with (first
       | (go_at_call 32; refine (HCl.out _ (by go_grown)).mono ?_; rintro e w2 ⟨va, vc, rfl, hv2, hb2⟩; have HV2 : Hid (IntsR true w2 (fun b => wr.heap.size + 1 ≤ b) (.slice va p.length vc) p) := Lib.hid (hv2.stable (rdOf_stable _) (Keeps.refl _ _) (fun b h _ => alloc_le h)); have hk2 := Lib.hid (heap_below hb2 (heap_new _ _ rfl)); have hz2 : wr.heap.size + 1 ≤ w2.heap.size := alloc_le hb2.size; have hx2 := Lib.hid (below_from ((Below.refl wr.heap.size wr).alloc (Nat.le_refl _) _) hb2); clear hv2 hb2)
       | (at_builtin; go_must (refine wpList_append_R _ rfl _ _ 27 27 rfl rowInt eltInt (wr.heap.size + 1) (.slice va p.length vc) _ (xs := p) (ys := [(k : Int)]) (news := [.int .i64 k]) rfl rfl (HV2.out.stable (rdOf_stable _) (.all ((Below.refl _ _).alloc (Nat.le_refl _) _)) (fun _ h _ => h)) (by simp; omega) (src_tag _ _ 1 (by simp)) (NewsR.one rfl rfl) hrl ?_); intro v8 w8 hR8 hB8 _ _; rw [HPK.out] at hR8; obtain ⟨na, nc, hne⟩ := hR8.slice; subst hne; have HR8 := Lib.hid hR8; have hx28 := Lib.hid (((Below.refl (wr.heap.size + 1) w2).alloc hz2 _).trans hB8); have hx8 := Lib.hid (hx2.out.trans (hx28.out.mono (by omega))); have hk8 := Lib.hid ((hx28.out.block _ (Nat.lt_succ_self _)).trans hk2.out); obtain ⟨q8, g8⟩ := blk hk8.out; clear hR8 hB8)
       | (go_at_call 56; refine (HC.out _).mono ?_; rintro e w9 ⟨rfl, hb9⟩; have hx9 := Lib.hid (below_from hx8.out hb9); have hk9 := Lib.hid (heap_below hb9 hk8.out); obtain ⟨q9, g9⟩ := blk hk9.out; have hf9 := Lib.hid (heap_below hx9.out HFr.out); obtain ⟨q3, g3⟩ := blk hf9.out; have hr9 := Lib.hid (heap_below hx9.out HRr.out); obtain ⟨q4, g4⟩ := blk hr9.out; have HR9 := Lib.hid (HR8.out.below (rdOf_stable _) hb9); have hz9 : wr.heap.size + 1 < w9.heap.size + 1 := Nat.succ_lt_succ (Nat.lt_of_lt_of_le (Nat.lt_of_succ_le hz2) (Nat.le_trans hx28.out.size hb9.size)); clear hb9))
      go_roundw
      case rel => exact ⟨k + 1, _, hlt, by go_num, HCC.out.1, HCC.out.2, HO, Lib.hid ((HBt.out.trans (But.of hx9.out)).set _ _), Lib.hid (by unfold FinAt; simp [heap_set, putIn, hf9.out])⟩
      case measure => simp [intOf]; omega
    ·have hb0 : (x.tag == 0) = false := by simp [h0]
     have hb02 : (x.tag != 0) = true := by simp [h0]
     have H0 := Lib.hid h0
     clear h0
     cases hr : leafF x pk c with
     | inl r =>
      obtain ⟨q, t⟩ := r
      have HO := Lib.hid (HFk.out.trans (leaf_in HX.out p c H16.out H0.out (HPK.out ▸ hr)))
      rw [hr] at HW
      clear HFk hr
      go_wp2_with (first
       | (go_at_call 32; refine (HCl.out _ (by go_grown)).mono ?_; rintro e w2 ⟨va, vc, rfl, hv2, hb2⟩; have HV2 : Hid (IntsR true w2 (fun b => wr.heap.size + 1 ≤ b) (.slice va p.length vc) p) := Lib.hid (hv2.stable (rdOf_stable _) (Keeps.refl _ _) (fun b h _ => alloc_le h)); have hk2 := Lib.hid (heap_below hb2 (heap_new _ _ rfl)); have hz2 : wr.heap.size + 1 ≤ w2.heap.size := alloc_le hb2.size; have hx2 := Lib.hid (below_from ((Below.refl wr.heap.size wr).alloc (Nat.le_refl _) _) hb2); clear hv2 hb2)
       | (at_builtin; go_must (refine wpList_append_R _ rfl _ _ 27 27 rfl rowInt eltInt (wr.heap.size + 1) (.slice va p.length vc) _ (xs := p) (ys := [(k : Int)]) (news := [.int .i64 k]) rfl rfl (HV2.out.stable (rdOf_stable _) (.all ((Below.refl _ _).alloc (Nat.le_refl _) _)) (fun _ h _ => h)) (by simp; omega) (src_tag _ _ 1 (by simp)) (NewsR.one rfl rfl) hrl ?_); intro v8 w8 hR8 hB8 _ _; rw [HPK.out] at hR8; obtain ⟨na, nc, hne⟩ := hR8.slice; subst hne; have HR8 := Lib.hid hR8; have hx28 := Lib.hid (((Below.refl (wr.heap.size + 1) w2).alloc hz2 _).trans hB8); have hx8 := Lib.hid (hx2.out.trans (hx28.out.mono (by omega))); have hk8 := Lib.hid ((hx28.out.block _ (Nat.lt_succ_self _)).trans hk2.out); obtain ⟨q8, g8⟩ := blk hk8.out; clear hR8 hB8)
       | (go_at_call 56; refine (HC.out _).mono ?_; rintro e w9 ⟨rfl, hb9⟩; have hx9 := Lib.hid (below_from hx8.out hb9); have hk9 := Lib.hid (heap_below hb9 hk8.out); obtain ⟨q9, g9⟩ := blk hk9.out; have hf9 := Lib.hid (heap_below hx9.out HFr.out); obtain ⟨q3, g3⟩ := blk hf9.out; have hr9 := Lib.hid (heap_below hx9.out HRr.out); obtain ⟨q4, g4⟩ := blk hr9.out; have HR9 := Lib.hid (HR8.out.below (rdOf_stable _) hb9); have hz9 : wr.heap.size + 1 < w9.heap.size + 1 := Nat.succ_lt_succ (Nat.lt_of_lt_of_le (Nat.lt_of_succ_le hz2) (Nat.le_trans hx28.out.size hb9.size)); clear hb9)
       | (go_at_call 31; refine (HW.out _ _ _ (fun b => wr.heap.size + 1 ≤ b ∧ b < w9.heap.size) hx9.out ((HR9.out.read fun _ _ h => h).stable (rdOf_stable _) (Keeps.refl _ _) (fun b h hz => ⟨h, hz⟩)) (fun b h => ⟨h.2, by omega⟩)).mono ?_; rintro e w10 ⟨hbt, qa, qc, rfl, hq⟩; have HBT := Lib.hid hbt; have HQ := Lib.hid hq; have hz10 : w.heap.size + 1 < w10.heap.size := Nat.lt_of_lt_of_le (Nat.lt_trans hwz (Nat.lt_of_succ_lt_succ hz9)) hbt.size; have hr10 := Lib.hid (hbt.heap (by omega) hr9.out); obtain ⟨q5, g5⟩ := blk hr10.out; have hne10 : ¬ (w.heap.size + 1 = w10.heap.size) := Nat.ne_of_lt hz10; clear hbt hq))
      have HQ1 : Hid (IntsR false w10 (fun b => wr.heap.size + 1 ≤ b) (.slice qa q.length qc) q) := Lib.hid (HQ.out.stable (rdOf_stable _) (Keeps.refl _ _) (fun b h _ => by rcases h with h | h; exact h.1; omega))
      refine bodyPost_ret (results_pt rfl _ _ (w.heap.size + 1) (.slice qa q.length qc) (.int .i64 t) rfl (heap_old _ _ (by simp [heap_set, putIn, hr10.out]))) rfl ?_
      refine ⟨((((HBw.out.trans (But.of hx9.out)).trans HBT.out).setN (Nat.le_succ _) 0 _).setN (Nat.le_succ _) 1 _).alloc _, ?_⟩
      rw [HO.out]
      exact ⟨qa, qc, rfl, HQ1.out.stable (rdOf_stable _) ((keeps2 (by omega) _ _).alloc _) (fun b h _ => .inr (by omega))⟩
     | inr c2 =>
      have hc2 := leafF_le x pk c c2 hr hc1
      have HO := Lib.hid (HFk.out.trans (leaf_past HX.out p c c2 H16.out H0.out (HPK.out ▸ hr)))
      have hcc : 1 ≤ c2 ∧ c2 ≤ 1000000 := by omega
      have HCC := Lib.hid hcc
      rw [hr] at HW
      clear HFk hr hc2 hcc
      go_wp2_with (first
       | (go_at_call 32; refine (HCl.out _ (by go_grown)).mono ?_; rintro e w2 ⟨va, vc, rfl, hv2, hb2⟩; have HV2 : Hid (IntsR true w2 (fun b => wr.heap.size + 1 ≤ b) (.slice va p.length vc) p) := Lib.hid (hv2.stable (rdOf_stable _) (Keeps.refl _ _) (fun b h _ => alloc_le h)); have hk2 := Lib.hid (heap_below hb2 (heap_new _ _ rfl)); have hz2 : wr.heap.size + 1 ≤ w2.heap.size := alloc_le hb2.size; have hx2 := Lib.hid (below_from ((Below.refl wr.heap.size wr).alloc (Nat.le_refl _) _) hb2); clear hv2 hb2)
       | (at_builtin; go_must (refine wpList_append_R _ rfl _ _ 27 27 rfl rowInt eltInt (wr.heap.size + 1) (.slice va p.length vc) _ (xs := p) (ys := [(k : Int)]) (news := [.int .i64 k]) rfl rfl (HV2.out.stable (rdOf_stable _) (.all ((Below.refl _ _).alloc (Nat.le_refl _) _)) (fun _ h _ => h)) (by simp; omega) (src_tag _ _ 1 (by simp)) (NewsR.one rfl rfl) hrl ?_); intro v8 w8 hR8 hB8 _ _; rw [HPK.out] at hR8; obtain ⟨na, nc, hne⟩ := hR8.slice; subst hne; have HR8 := Lib.hid hR8; have hx28 := Lib.hid (((Below.refl (wr.heap.size + 1) w2).alloc hz2 _).trans hB8); have hx8 := Lib.hid (hx2.out.trans (hx28.out.mono (by omega))); have hk8 := Lib.hid ((hx28.out.block _ (Nat.lt_succ_self _)).trans hk2.out); obtain ⟨q8, g8⟩ := blk hk8.out; clear hR8 hB8)
       | (go_at_call 56; refine (HC.out _).mono ?_; rintro e w9 ⟨rfl, hb9⟩; have hx9 := Lib.hid (below_from hx8.out hb9); have hk9 := Lib.hid (heap_below hb9 hk8.out); obtain ⟨q9, g9⟩ := blk hk9.out; have hf9 := Lib.hid (heap_below hx9.out HFr.out); obtain ⟨q3, g3⟩ := blk hf9.out; have hr9 := Lib.hid (heap_below hx9.out HRr.out); obtain ⟨q4, g4⟩ := blk hr9.out; have HR9 := Lib.hid (HR8.out.below (rdOf_stable _) hb9); have hz9 : wr.heap.size + 1 < w9.heap.size + 1 := Nat.succ_lt_succ (Nat.lt_of_lt_of_le (Nat.lt_of_succ_le hz2) (Nat.le_trans hx28.out.size hb9.size)); clear hb9)
       | (go_at_call 31; refine (HW.out _ _ _ (fun b => wr.heap.size + 1 ≤ b ∧ b < w9.heap.size) hx9.out ((HR9.out.read fun _ _ h => h).stable (rdOf_stable _) (Keeps.refl _ _) (fun b h hz => ⟨h, hz⟩)) (fun b h => ⟨h.2, by omega⟩)).mono ?_; rintro e w10 ⟨hbt, rfl, hfo⟩; have HBT := Lib.hid hbt; have HFO := Lib.hid hfo; clear hbt hfo))
      go_roundw
      case rel => exact ⟨k + 1, c2, hlt, by go_num, HCC.out.1, HCC.out.2, HO, Lib.hid (((HBt.out.trans (But.of hx9.out)).trans HBT.out).alloc _), Lib.hid (heap_old _ _ HFO.out)⟩
      case measure => simp [intOf]; omega
  ·obtain rfl : k = n.kids.length := by omega
   have HO := Lib.hid (HFk.out.trans (leaf_end n.kids p c))
   have hwz : w.heap.size + 1 < wr.heap.size := Nat.lt_of_lt_of_le HZ.out HBt.out.size
   have hBz : B < w.heap.size := HBz.out
   have hRr : Hid (wr.heap[w.heap.size + 1]? = some (.cells #[.slice none 0 0, .int .i64 0] 45)) := Lib.hid (HBt.out.heap (by omega) HR.out)
   obtain ⟨q4, g4⟩ := blk hRr.out
   go_wp2_with fail
   refine bodyPost_ret (results_pt rfl _ _ (w.heap.size + 1) (.slice none 0 0) (.int .i64 0) rfl (by simp [heap_set, putIn, hRr.out])) rfl ?_
   refine ⟨((((But.of HB.out).trans HBt.out).setN (Nat.le_succ _) 0 _).setN (Nat.le_succ _) 1 _), ?_⟩
   rw [HO.out]
   have hf := HFr.out
   unfold FinAt at hf
   exact ⟨rfl, by unfold FinAt; simp [heap_set, putIn, hf, show ¬ (w.heap.size + 1 = B) by omega]⟩
theorem leaf_all : ∀ h, LeafAt h
 | 0 => leaf_step 0 (fun _ e => by cases e)
 | h + 1 => leaf_step (h + 1) (fun h' e => by cases e; exact leaf_all h)
end Go.Proofs.YteognfhemmogpaaGreatDoor
namespace Go.Proofs.Qw
open Go.RowKit Go.Proofs.YteognfhemmogpaaGreatDoor
theorem slice_blkS {α : Type} {t : TypeId} {k : Nat} {enc : α → List Value} (hk : ∀ x, (enc x).length = k) {w : World} {S : Nat → Prop} {b : Nat} (xs : List α) (h : w.heap[b]? = some (.cells (xs.map enc).flatten.toArray t)) (hS : S b) (hm : xs.length ≤ maxLen) :
  SliceR t k (rdOf enc) false w S (.slice (some ⟨b, 0, none⟩) xs.length xs.length) xs := by
 refine ⟨_, xs.length, rfl, Nat.le_refl _, hm, .inr ⟨b, 0, rfl, hS, (Array.getElem?_eq_some_iff.1 h).1, (fun e => by cases e), fun i x hx => ⟨enc x, hk x, rfl, fun j u hu => ?_⟩⟩⟩
 rw [cell_of_heap h, Nat.zero_add, List.getElem?_toArray]
 exact flatten_at (xs.map enc) i (enc x) j u (by simp; intro a _; exact hk a) (by rw [List.getElem?_map, hx]; rfl) hu
theorem grow_last (xs : List Nod) (z : Nod) (c : Int) (d : Nat) : growW (d + 1) c (xs ++ [z]) = xs ++ [.mk z.tag z.attrs z.text (growW d c z.kids)] := by
 rw [growW, lastN_append _ _ (by simp), lastN_one]
theorem grow_text (xs : List Nod) (z : Nod) (c : Int) : growW 0 c (xs ++ [z]) = xs ++ [.mk z.tag z.attrs (z.text ++ txtL [c]) z.kids] := by
 rw [growW, lastN_append _ _ (by simp), lastN_one]
theorem txt_last {xs : List Nod} {z : Nod} {B : Nat} (h : txtSzs (xs ++ [z]) ≤ B) : z.text.length ≤ B ∧ txtSzs z.kids ≤ B := by
 have h1 : txtSzs [z] = txtSz z := by rw [txtSzs, txtSzs]; rfl
 rw [txt_app, h1, txt_kids] at h
 omega
end Go.Proofs.Qw
namespace Go.Proofs.YteognfhemmogpaaGreatDoor
open Go.RowKit
open Go.Proofs.Qw
attribute [local go_sem ↓] Go.wp_at_zero Go.wp_at_succ
def GrowAt (d : Nat) : Prop := ∀ (H : Nat) (nv : Value) (l : List Nod) (c : Int) (w : World) (S : Nat → Prop), NodsR true H w S nv l → (∀ b, S b → b < w.heap.size) → Spine (d + 1) l → Nod.counts l ≤ 1000000 → txtSzs l ≤ 1000000000 →  d ≤ 1000000 →
  Calls Tryz.prog 58 #[nv, .int .i64 d, .int .i32 c] w fun e w' => ∃ v', e = .returned v' ∧ NodsR true H w' (fun b => S b ∨ w.heap.size ≤ b) v' (growW d c l) ∧ Below w.heap.size w w'
set_option maxRecDepth 100000 in
set_option maxHeartbeats 4000000 in
theorem grow_step (dd : Nat) (ih : ∀ d, dd = d + 1 → GrowAt d) : GrowAt dd := by
 intro H nv l ch w S hN hS hsp hcn htx hdd0
 have hdd : ∀ d, dd = d + 1 → d ≤ 1000000 := fun d e => by omega
 obtain ⟨xs, z, rfl, hsp⟩ := hsp
 obtain ⟨hcz, hxl⟩ := counts_kids_le hcn
 obtain ⟨htz, htk⟩ := txt_last htx
 obtain ⟨na, nc, rfl⟩ := hN.slice
 have HN := Lib.hid hN
 have HSb := Lib.hid hS
 have HI := Lib.hid ih
 have HSP := Lib.hid hsp
 have hwl : IntKind.i64.wrap ((xs.length : Int) + 1 - 1) = (xs.length : Int) := by rw [IntKind.wrap_i64]; omega
 have i0 : (0 : Int) ≤ (xs.length : Int) := Int.natCast_nonneg _
 have i1 : (xs.length : Int) < (xs.length : Int) + 1 := by omega
 clear hN hS hcn htx hsp ih
 obtain ⟨G, hG⟩ : ∃ G, (match dd with | 0 => z.kids | d + 1 => growW d ch z.kids) = G := ⟨_, rfl⟩
 have HG : Hid (∀ d, dd = d + 1 → growW d ch z.kids = G) := Lib.hid fun d e => by subst e; exact hG
 have HGW : Hid (growW dd ch (xs ++ [z]) = xs ++ [match dd with | 0 => .mk z.tag z.attrs (z.text ++ txtL [ch]) z.kids | d + 1 => .mk z.tag z.attrs z.text G]) := Lib.hid (by
  cases dd with
  | zero => exact grow_text xs z ch
  | succ d => rw [grow_last, HG.out d rfl])
 rw [HGW.out]
 clear hG
 go_enter Tryz.func58, Tryz.ntmps58
 go_upto_region 3 with (at_builtin; go_must (refine wpList_app_nods _ rfl _ _ rfl S H w.heap.size (.slice (some ⟨w.heap.size, 0, none⟩) 0 0) (.slice na (xs ++ [z]).length nc) (xs := []) (ys := xs ++ [z]) rfl rfl (RwX.empty _ _ _ _ _ _) (fresh_empty _ _ _ (Nat.le_refl _)) (by simp) HSb.out (HN.out.below (rdNod_stable _ _) ((Below.refl _ _).alloc (Nat.le_refl _) _)) (by simp; omega) ?_); intro v8 w8 hR8 hF8 hB8; rw [List.nil_append] at hR8; obtain ⟨b, o, c, za, zac, zk, zkc, h', hHe, hve, hmb, hbz, hfr, d0, d1, d2, d3, hza, hzk, hcm⟩ := fresh_last hR8 hF8; subst hve; subst hHe; have HR8 := Lib.hid hR8; have HF8 := Lib.hid hF8; have HZA := Lib.hid hza; have HZK := Lib.hid hzk; have hx8 := Lib.hid (((Below.refl w.heap.size w).alloc (Nat.le_refl _) _).trans hB8); clear hR8 hF8 hza hzk hB8)
 obtain ⟨W9, hW9⟩ : ∃ W9, w8.alloc (.cells #[.int .i64 z.tag, .slice za z.attrs.length zac, .string ⟨z.text.toArray⟩, .slice zk z.kids.length zkc] 35) = W9 := ⟨_, rfl⟩
 rw [hW9]
 have hb89 : Below w8.heap.size w8 W9 := hW9 ▸ (Below.refl _ _).alloc (Nat.le_refl _) _
 have hL9 : W9.heap[w8.heap.size]? = some (.cells #[.int .i64 z.tag, .slice za z.attrs.length zac, .string ⟨z.text.toArray⟩, .slice zk z.kids.length zkc] 35) := hW9 ▸ heap_new _ _ rfl
 have hz89 : w8.heap.size < W9.heap.size := by rw [← hW9]; simp
 have HB89 := Lib.hid hb89
 have HL9 := Lib.hid hL9
 have hz08 : w.heap.size ≤ w8.heap.size := hx8.out.size
 have hne : ¬ b = w8.heap.size := Nat.ne_of_lt hbz
 have hne2 : ¬ w8.heap.size = b := fun e => hne e.symm
 obtain ⟨p3, f3⟩ := blk hL9
 have hsx : ∀ d, S d → d < w8.heap.size := fun d hd => Nat.lt_of_lt_of_le (HSb.out d hd) hz08
 clear hW9 hL9 hb89
 cases dd with
 | zero =>
  have hcv : (convert 96 9 (.slice (some ⟨W9.heap.size, 0, none⟩) 1 1)).run Tryz.prog (W9.alloc (.cells #[.int .i32 ch] 21)) = .ok (.string (runesBytes [ch])) (W9.alloc (.cells #[.int .i32 ch] 21)) :=
   string_runes (own := false) (S := fun _ => True) (slice_blkS (enc := encRune) (fun _ => rfl) [ch] (heap_new _ _ rfl) trivial (by show 1 ≤ maxLen; decide))
  have hcs := runesBytes_size_le [ch]
  have hsum : (⟨z.text.toArray⟩ : ByteArray).size + (runesBytes [ch]).size ≤ 9223372036854775807 := by
   have : (⟨z.text.toArray⟩ : ByteArray).size = z.text.length := by show z.text.toArray.size = _; simp
   simp only [List.length_cons, List.length_nil] at hcs
   omega
  have hadd := run_string_add_sum (P := Tryz.prog) (W9.alloc (.cells #[.int .i32 ch] 21)) ⟨z.text.toArray⟩ (runesBytes [ch]) hsum
  have hif : ¬ ((9223372036854775807 : Int) < ((⟨z.text.toArray⟩ : ByteArray).size : Int) + ((runesBytes [ch]).size : Int)) := by omega
  go_upto_region 6 with fail
  have hbt : (⟨z.text.toArray⟩ ++ runesBytes [ch] : ByteArray) = ⟨(z.text ++ txtL [ch]).toArray⟩ := by
   have h1 : runesBytes [ch] = ⟨(txtL [ch]).toArray⟩ := by unfold txtL; rw [← runesBytes_eq]
   rw [h1]
   apply ByteArray.ext
   simp
  rw [hbt]
  obtain ⟨W11, hW11⟩ : ∃ W11, (W9.setCell ⟨w8.heap.size, 2, none⟩ (.string ⟨(z.text ++ txtL [ch]).toArray⟩)).alloc (.cells #[.int .i32 ch] 21) = W11 := ⟨_, rfl⟩
  rw [hW11]
  have hL11 : W11.heap[w8.heap.size]? = some (.cells #[.int .i64 z.tag, .slice za z.attrs.length zac, .string ⟨(z.text ++ txtL [ch]).toArray⟩, .slice zk z.kids.length zkc] 35) := by
   rw [← hW11]
   refine heap_old _ _ ?_
   rw [heap_set, if_pos rfl, HL9.out]
   rfl
  clear hcv hcs hsum hadd hif
  have hx811 : Below w8.heap.size w8 W11 := by
   rw [← hW11]
   exact ((HB89.out.setCell (Nat.le_refl _) _).alloc (by have := HB89.out.size; simpa using this) _)
  have hz11 : w8.heap.size < W11.heap.size := (Array.getElem?_eq_some_iff.1 hL11).1
  obtain ⟨p5, f5⟩ := blk hL11
  have e0 := (hx811.cell (p := ⟨b, o + xs.length * 4, none⟩) hbz).trans d0
  have e1 := (hx811.cell (p := ⟨b, o + xs.length * 4 + 1, none⟩) hbz).trans d1
  have e2 := (hx811.cell (p := ⟨b, o + xs.length * 4 + 2, none⟩) hbz).trans d2
  have e3 := (hx811.cell (p := ⟨b, o + xs.length * 4 + 3, none⟩) hbz).trans d3
  have hfr2 : ∀ k, W11.frozen? ⟨b, k, none⟩ = false := fun k => (World.frozen?_of_block (hx811.block b hbz)).trans (hfr k)
  have HX11 := Lib.hid hx811
  have HW11 := Lib.hid hW11
  clear d0 d1 d2 d3 hfr hW11 hL11 hx811
  go_wp2_with fail
  go_ret
  have hrow := fresh_put (S1 := S) (x := .mk z.tag z.attrs (z.text ++ txtL [ch]) z.kids) (HR8.out.below (rdIn_stable _ _) (Keeps.all HX11.out)) (fun d hd => hd) (fun hd => by have := HSb.out _ hd; omega) (HZA.out.below (rdOf_stable _) HX11.out) (HZK.out.below (rdNod_stable _ _) HX11.out)
  have hfin := (fresh_row hrow HF8.out).stable (rdNod_stable _ _) (Keeps.refl _ _) (S' := fun d => S d ∨ w.heap.size ≤ d) (fun d hd _ => by
   rcases hd with hd | hd
   ·first | exact .inl hd | (rcases hd with hd | hd; exact .inl hd; exact .inr (by omega))
   ·exact .inr (by omega))
  refine ⟨_, rfl, hfin, ?_⟩
  exact ((((hx8.out.trans (HX11.out.mono hz08)).setCell (by show w.heap.size ≤ b; omega) _).setCell (by show w.heap.size ≤ b; omega) _).setCell (by show w.heap.size ≤ b; omega) _).setCell (by show w.heap.size ≤ b; omega) _
 | succ d =>
  have hd0 : decide ((0 : Int) < ((d + 1 : Nat) : Int)) = true := decide_eq_true (by omega)
  have hd1 : decide ((0 : Int) < (d : Int) + 1) = true := decide_eq_true (by omega)
  have hdm : d ≤ 1000000 := hdd d rfl
  have hws : IntKind.i64.wrap ((d : Int) + 1 - 1) = (d : Int) := by rw [IntKind.wrap_i64]; omega
  have hws2 : IntKind.i64.wrap (d : Int) = (d : Int) := by rw [IntKind.wrap_i64]; omega
  have HC : Hid (∀ X, Below W9.heap.size W9 X → Calls Tryz.prog 58 #[.slice zk z.kids.length zkc, .int .i64 d, .int .i32 ch] X fun e X' => ∃ ra rc, e = .returned (.slice ra G.length rc) ∧ NodsR true h' X' (fun b => S b ∨ X.heap.size ≤ b) (.slice ra G.length rc) G ∧ Below X.heap.size X X') := Lib.hid fun X hX => by
   have h8X : Below w8.heap.size w8 X := below_from HB89.out hX
   refine (HI.out d rfl h' _ z.kids ch X S (HZK.out.below (rdNod_stable _ _) h8X) (fun b hb => Nat.lt_of_lt_of_le (hsx b hb) h8X.size) (HSP.out) hcz htk hdm).mono ?_
   rintro e X' ⟨v', h1, h2, h3⟩
   rw [HG.out d rfl] at h2
   obtain ⟨ra, rc, rfl⟩ := h2.slice
   exact ⟨ra, rc, h1, h2, h3⟩
  go_upto_region 6 with (go_at_call 58; refine (HC.out _ (Below.refl _ _)).mono ?_; rintro e w10 ⟨ra, rc, rfl, hr10, hb10⟩; have HR10 := Lib.hid hr10; have hx10 := Lib.hid hb10; have hL10 := Lib.hid (heap_below hb10 HL9.out); obtain ⟨p4, f4⟩ := blk hL10.out; clear hr10 hb10)
  obtain ⟨W11, hW11⟩ : ∃ W11, w10.setCell ⟨w8.heap.size, 3, none⟩ (.slice ra G.length rc) = W11 := ⟨_, rfl⟩
  rw [hW11]
  have hL11 : W11.heap[w8.heap.size]? = some (.cells #[.int .i64 z.tag, .slice za z.attrs.length zac, .string ⟨z.text.toArray⟩, .slice ra G.length rc] 35) := by
   rw [← hW11, heap_set, if_pos rfl, hL10.out]
   rfl
  have HK11 : Hid (Keeps (fun d => d ≠ w8.heap.size) w10 W11) := Lib.hid (by
   rw [← hW11]
   exact (Keeps.refl _ _).set (by simp) _)
  have hx811 : Below w8.heap.size w8 W11 := by
   rw [← hW11]
   exact (below_from HB89.out hx10.out).setCell (Nat.le_refl _) _
  have hz11 : w8.heap.size < W11.heap.size := (Array.getElem?_eq_some_iff.1 hL11).1
  obtain ⟨p5, f5⟩ := blk hL11
  have e0 := (hx811.cell (p := ⟨b, o + xs.length * 4, none⟩) hbz).trans d0
  have e1 := (hx811.cell (p := ⟨b, o + xs.length * 4 + 1, none⟩) hbz).trans d1
  have e2 := (hx811.cell (p := ⟨b, o + xs.length * 4 + 2, none⟩) hbz).trans d2
  have e3 := (hx811.cell (p := ⟨b, o + xs.length * 4 + 3, none⟩) hbz).trans d3
  have hfr2 : ∀ k, W11.frozen? ⟨b, k, none⟩ = false := fun k => (World.frozen?_of_block (hx811.block b hbz)).trans (hfr k)
  have HX11 := Lib.hid hx811
  clear d0 d1 d2 d3 hfr hW11 hL11 hx811 p4 f4
  go_wp2_with fail
  go_ret
  have hrow := fresh_put (S1 := fun d => S d ∨ W9.heap.size ≤ d) (x := .mk z.tag z.attrs z.text G) (HR8.out.below (rdIn_stable _ _) (Keeps.all HX11.out)) (fun d hd => .inl hd) (fun hd => by
    have := HB89.out.size
    rcases hd with hd | hd
    ·have := HSb.out _ hd
     omega
    ·omega) ((HZA.out.below (rdOf_stable _) HX11.out).stable (rdOf_stable _) (Keeps.refl _ _) (fun d hd _ => .inl hd)) (HR10.out.stable (rdNod_stable _ _) (S' := fun d => S d ∨ W9.heap.size ≤ d) ⟨HK11.out.size, fun d hd hz => HK11.out.block d (fun e => by
    have := HB89.out.size
    subst e
    rcases hd with hd | hd
    ·have := hsx _ hd
     omega
    ·omega) hz⟩ (fun d hd _ => hd))
  have hfin := (fresh_row hrow HF8.out).stable (rdNod_stable _ _) (Keeps.refl _ _) (S' := fun d => S d ∨ w.heap.size ≤ d) (fun d hd _ => by
   have := HB89.out.size
   rcases hd with (hd | hd) | hd
   ·exact .inl hd
   ·exact .inr (by omega)
   ·exact .inr hd)
  refine ⟨_, rfl, hfin, ?_⟩
  exact ((((hx8.out.trans (HX11.out.mono hz08)).setCell (by show w.heap.size ≤ b; omega) _).setCell (by show w.heap.size ≤ b; omega) _).setCell (by show w.heap.size ≤ b; omega) _).setCell (by show w.heap.size ≤ b; omega) _
theorem grow_all : ∀ d, GrowAt d
 | 0 => grow_step 0 (fun _ e => by cases e)
 | d + 1 => grow_step (d + 1) (fun d' e => by cases e; exact grow_all d)
end Go.Proofs.YteognfhemmogpaaGreatDoor
namespace Go.Proofs.Qw
open Go.RowKit
theorem lastD_snoc (xs : List Nod) (z d : Nod) : (xs ++ [z]).getLastD d = z := by rw [List.getLastD_eq_getLast?]; simp
theorem behind_in (n : Nat) (p : List Int) (xs : List Nod) (z : Nod) : behindP (n + 1) 0 p (xs ++ [z]) = behindP n 0 (p ++ [(xs.length : Int)]) z.kids := by
 rw [behindP, lastD_snoc]
 have e : (((0 + (xs ++ [z]).length : Nat) : Int) - 1) = (xs.length : Int) := by simp
 rw [e]
theorem behind_br (p : List Int) (xs : List Nod) (z : Nod) (h : z.tag = 16) : behindP 0 0 p (xs ++ [z]) = (p, (xs.length : Int) + 1) := by
 rw [behindP, lastD_snoc]
 show (if z.tag = 16 then _ else _) = _
 rw [if_pos h]
 simp
theorem behind_tx (p : List Int) (xs : List Nod) (z : Nod) (h : z.tag ≠ 16) : behindP 0 0 p (xs ++ [z]) = (p ++ [(xs.length : Int)], ((runesB ⟨z.text.toArray⟩).length : Int)) := by
 rw [behindP, lastD_snoc]
 show (if z.tag = 16 then _ else (p ++ [(((0 + (xs ++ [z]).length : Nat) : Int) - 1)], _)) = _
 have e : (((0 + (xs ++ [z]).length : Nat) : Int) - 1) = (xs.length : Int) := by simp
 rw [if_neg h, e]
end Go.Proofs.Qw
namespace Go.Proofs.YteognfhemmogpaaGreatDoor
open Go.RowKit
open Go.Proofs.Qw
attribute [local go_sem ↓] Go.wp_at_zero Go.wp_at_succ
theorem results_p1 {fn : Func} {p : Tmp} (h : fn.results = #[.cell p 45]) (tmps : Array Value) (w : World) (B : Nat) (x y : Value) (hp : tmps.getD p undef = .pointer (some ⟨B, 0, none⟩)) (hB : w.heap[B]? = some (.cells #[x, y] 45)) :
  (results fn tmps).run Tryz.prog w = .ok (.agg #[x, y]) w := by
 have hp' : tmps[p]?.getD undef = .pointer (some ⟨B, 0, none⟩) := by simpa using hp
 have h1 := run_loadVar_row (P := Tryz.prog) w B 45 45 _ _ _ hB Tryz.underlying45 rfl (by kernel_rfl)
 simp [results, h, hp', asAddr, h1]
theorem runes_len (s : ByteArray) (w : World) (hs : s.size ≤ 10000000) : ∃ a c w1, (convert 9 96 (.string s)).run Tryz.prog w = .ok (.slice a (runesB s).length c) w1 ∧ Below w.heap.size w w1 := by
 have hz := size_runesFrom s s.size 0 #[]
 have hr := run_runes_of_string w 9 96 21 s Tryz.underlying9 Tryz.underlying96 Tryz.underlying21 (by simp at hz; omega)
 have he : Conv.runesFrom s s.size 0 #[] = ((runesB s).map (Value.int .i32)).toArray := by rw [runesFrom_eq]; simp [runesB]
 rw [he] at hr
 simp only [List.size_toArray, List.length_map] at hr
 exact ⟨_, _, _, hr, by (repeat' (first | (with_reducible exact Below.refl _ _) | (with_reducible assumption) | (with_reducible refine Below.alloc ?_ ?_ _) | (with_reducible refine Below.drew ?_) | (with_reducible refine drewN_below ?_) | (with_reducible refine Below.setCell ?_ ?_ _) | go_size))⟩
theorem two_points (w : World) (a b c d : Value) : ∃ W1, (w.alloc (.cells #[a, b] 45)).alloc (.cells #[c, d] 45) = W1 ∧ Below w.heap.size w W1 ∧ w.heap.size + 1 < W1.heap.size ∧ W1.heap[w.heap.size]? = some (.cells #[a, b] 45) ∧ W1.heap[w.heap.size + 1]? = some (.cells #[c, d] 45) :=
 ⟨_, rfl, ((Below.refl _ _).alloc (Nat.le_refl _) _).alloc (by simp) _, by simp, heap_old _ _ (heap_new _ _ rfl), heap_new _ _ (by simp)⟩
theorem own_lt {α : Type} {t : TypeId} {k : Nat} {R : Rd α} {own : Bool} {w : World} {S : Nat → Prop} {a : Option Addr} {n c : Nat} {p : List α} {x : α} (h : SliceR t k R own w S (.slice a n c) (p ++ [x])) : ∀ d, (Value.slice a n c).ownBlock = some d → d < w.heap.size := by
 obtain ⟨a', c', e, _, _, ⟨h0, _⟩ | ⟨b, o, rfl, _, hz, _⟩⟩ := h
 ·exact absurd h0 (by simp)
 ·cases e
  intro d hd
  cases hd
  exact hz
structure BhAt (P R n : Nat) (w0 : World) (p : List Int) (pa : Option Addr) (pn pc : Nat) (w : World) : Prop where
 blk : w.heap[P]? = some (.cells #[.slice pa pn pc, .int .i64 0] 45)
 res : w.heap[R]? = some (.cells #[.slice none 0 0, .int .i64 0] 45)
 row : IntsR true w (fun b => n ≤ b) (.slice pa pn pc) p
 below : Below w0.heap.size w0 w
 size : n ≤ w.heap.size
 own : ∀ d, (Value.slice pa pn pc).ownBlock = some d → d < w.heap.size
set_option maxRecDepth 100000 in
set_option maxHeartbeats 4000000 in
theorem behind_any (n H : Nat) (nv : Value) (l : List Nod) (w : World) (S : Nat → Prop) (hN : NodsR false H w S nv l) (hS : ∀ b, S b → b < w.heap.size) (hsp : Spine (n + 1) l) (hn : n ≤ 1000) (htx : txtSzs l ≤ 1000000) (hcn : Nod.counts l ≤ 1000000) :
  Calls Tryz.prog 59 #[nv, .int .i64 n] w fun e w' => ∃ qa qc, e = .returned (.agg #[.slice qa (behindP n 0 [] l).1.length qc, .int .i64 (behindP n 0 [] l).2]) ∧ IntsR true w' (fun b => w.heap.size ≤ b) (.slice qa (behindP n 0 [] l).1.length qc) (behindP n 0 [] l).1 ∧ Below w.heap.size w w' := by
 obtain ⟨na, nc, rfl⟩ := hN.slice
 obtain ⟨PR, hPR⟩ : ∃ PR, behindP n 0 [] l = PR := ⟨_, rfl⟩
 have HPR := Lib.hid hPR
 rw [hPR]
 have HN := Lib.hid hN
 have HSb := Lib.hid hS
 have HSP := Lib.hid hsp
 have HTX := Lib.hid (And.intro htx hcn)
 obtain ⟨W1, hW1, hB, hz, hB1, hB2⟩ := two_points w (.slice none 0 0) (.int .i64 0) (.slice none 0 0) (.int .i64 0)
 have HZ := Lib.hid hz
 have HB0 : Hid (BhAt (w.heap.size + 1) w.heap.size W1.heap.size w [] none 0 0 W1) := Lib.hid ⟨hB2, hB1, SliceR.nil _ _ _ _ _ _, hB, Nat.le_refl _, fun d hd => by cases hd⟩
 clear hN hsp hPR htx hcn hB hB1 hB2 hz hS
 go_enter Tryz.func59, Tryz.ntmps59
 go_wp2_with fail
 go_loopw [0, 6] (fun v i wr => ∃ (k h : Nat) (g : List Nod) (va : Option Addr) (vn vc : Nat) (p : List Int) (pa : Option Addr) (pn pc : Nat), k ≤ n ∧ i = .int .i64 k ∧ v = .slice va vn vc ∧ Hid (NodsR false h wr S (.slice va vn vc) g) ∧ Hid (Spine (n - k + 1) g ∧ txtSzs g ≤ 1000000 ∧ Nod.counts g ≤ 1000000) ∧ p.length ≤ k ∧ Hid (behindP (n - k) 0 p g = PR) ∧ Hid (BhAt (w.heap.size + 1) w.heap.size W1.heap.size w p pa pn pc wr)) (fun _ i _ => n - (intOf i).toNat)
 case atStart => exact ⟨0, H, l, na, _, nc, [], none, 0, 0, Nat.zero_le _, rfl, rfl, Lib.hid (HN.out.below (rdNod_stable _ _) HB0.out.below), Lib.hid ⟨HSP.out, HTX.out⟩, Nat.le_refl _, HPR, HB0⟩
 case round =>
  obtain ⟨k, h, g, va, vn, vc, p, pa, pn, pc, hk, rfl, rfl, HG, HSG, hpl, HPB, HBA⟩ := hrel
  obtain ⟨⟨xs, z, rfl, hspz⟩, htx, hcn⟩ := HSG.out
  obtain ⟨hcz, hxl⟩ := counts_kids_le hcn
  obtain ⟨htz, htk⟩ := txt_last htx
  obtain ⟨va', vc', e', hvc, hvm, hx⟩ := nods_shapeS HG.out
  cases e'
  obtain rfl : pn = p.length := (SliceR.len HBA.out.row).1
  obtain ⟨b, o, za, zc, zk, zkc, h', rfl, rfl, hSb, hA⟩ := hx xs.length z (by simp)
  obtain ⟨hbz, c0, c1, c2, c3, _, hzk⟩ := hA
  have HZK := Lib.hid hzk
  have hwl : IntKind.i64.wrap ((xs.length : Int) + 1 - 1) = (xs.length : Int) := by rw [IntKind.wrap_i64]; omega
  have i0 : (0 : Int) ≤ (xs.length : Int) := Int.natCast_nonneg _
  have i1 : (xs.length : Int) < (xs.length : Int) + 1 := by omega
  obtain ⟨p1, f1⟩ := blk HBA.out.blk
  have hrl : p.length + [(xs.length : Int)].length ≤ 100000000 := by simp; omega
  have hpz : w.heap.size + 1 < wr.heap.size := Nat.lt_of_lt_of_le HZ.out HBA.out.size
  have hws := HBA.out.size
  have hsl : (xs ++ [z]).length = xs.length + 1 := by simp
  have hbw : b < w.heap.size := HSb.out b hSb
  have hz1 : w.heap.size + 1 < W1.heap.size := HZ.out
  have hbn : ¬ b = w.heap.size + 1 := by omega
  have hbn2 : ¬ w.heap.size + 1 = b := by omega
  clear hzk hx htx hcn
  by_cases hlt : k < n
  ·have hd : decide ((k : Int) < (n : Int)) = true := decide_eq_true (by omega)
   have hd2 : decide (k < n) = true := decide_eq_true hlt
   go_wp2_with (at_builtin; go_must (refine wpList_append_R _ rfl _ _ 27 27 rfl rowInt eltInt W1.heap.size (.slice pa p.length pc) _ (xs := p) (ys := [(xs.length : Int)]) (news := [.int .i64 xs.length]) rfl rfl (HBA.out.row.stable (rdOf_stable _) (.all ((Below.refl _ _).alloc (Nat.le_refl _) _)) (fun _ h _ => h)) (by simp; omega) (src_tag _ _ 1 (by simp)) (NewsR.one rfl rfl) hrl ?_); intro v8 w8 hR8 hB8 _ _; obtain ⟨qa, qn, qc, hne⟩ := slice_any' hR8; subst hne; have HR8 := Lib.hid hR8; have hx8 := Lib.hid (((Below.refl W1.heap.size wr).alloc hws _).trans hB8); have hP8 := Lib.hid ((hx8.out.block _ HZ.out).trans HBA.out.blk); obtain ⟨q8, g8⟩ := blk hP8.out; have k3 := (World.cell?_of_block (a := ⟨b, o + xs.length * 4 + 3, none⟩) (hx8.out.block b (by omega))).trans c3; clear hR8 hB8)
   have hwe : (w8.setCell ⟨w.heap.size + 1, 0, none⟩ (.slice qa qn qc)).heap.size = w8.heap.size := by simp
   have hsz8 : W1.heap.size ≤ w8.heap.size := Nat.le_trans hws hx8.out.size
   have hBH : BhAt (w.heap.size + 1) w.heap.size W1.heap.size w (p ++ [(xs.length : Int)]) qa qn qc (w8.setCell ⟨w.heap.size + 1, 0, none⟩ (.slice qa qn qc)) :=
    ⟨by rw [heap_set, if_pos rfl, hP8.out]; rfl, by rw [heap_set, if_neg (by omega)]; exact (hx8.out.block w.heap.size (by omega)).trans HBA.out.res, HR8.out.stable (rdOf_stable _) ((Keeps.refl _ _).set (by show ¬ (W1.heap.size ≤ w.heap.size + 1); omega) _) (fun _ h _ => h),
     (HBA.out.below.trans (hx8.out.mono (by omega))).setCell (Nat.le_succ _) _, by rw [hwe]; exact hsz8, fun d hd => by rw [hwe]; exact own_lt HR8.out d hd⟩
   have hKS : NodsR false h' (w8.setCell ⟨w.heap.size + 1, 0, none⟩ (.slice qa qn qc)) S (.slice zk z.kids.length zkc) z.kids := HZK.out.stable (rdNod_stable _ _) ((Keeps.of_below hx8.out (fun d hd _ => by have := HSb.out d hd; omega)).set (fun hd => by have h9 := HSb.out (w.heap.size + 1) hd; omega) _) (fun _ h _ => h)
   have hPB2 : behindP (n - (k + 1)) 0 (p ++ [(xs.length : Int)]) z.kids = PR := by
    rw [← HPB.out, show n - k = n - (k + 1) + 1 by omega, behind_in]
   have hsp2 : Spine (n - (k + 1) + 1) z.kids := by
    rw [show n - (k + 1) + 1 = n - k by omega]
    exact hspz
   go_roundw
   case rel => exact ⟨k + 1, h', z.kids, zk, _, zkc, p ++ [(xs.length : Int)], qa, qn, qc, hlt, by go_num, rfl, Lib.hid hKS, Lib.hid ⟨hsp2, htk, hcz⟩, by simp; omega, Lib.hid hPB2, Lib.hid hBH⟩
   case measure => simp [intOf]; omega
  ·obtain rfl : k = n := by omega
   have hd : decide ((k : Int) < (k : Int)) = false := decide_eq_false (by omega)
   rw [Nat.sub_self] at HPB
   obtain ⟨r1, s1⟩ := blk HBA.out.res
   have hrz : w.heap.size < wr.heap.size := by omega
   have hn1 : ¬ w.heap.size = wr.heap.size := by omega
   have hn2 : ¬ w.heap.size + 1 = wr.heap.size := by omega
   have hn3 : ¬ w.heap.size + 1 = w.heap.size := by omega
   by_cases h16 : z.tag = 16
   ·have hb16 : (z.tag == 16) = true := by simp [h16]
    have HT : Hid (PR = (p, (xs.length : Int) + 1)) := Lib.hid (by rw [← HPB.out]; exact behind_br p xs z h16)
    clear h16
    go_wp2_with fail
    refine bodyPost_ret (results_p1 rfl _ _ w.heap.size (.slice pa p.length pc) (.int .i64 ((xs.length : Int) + 1)) rfl (heap_old _ _ (by simp [heap_set, putIn, HBA.out.res]))) rfl ?_
    rw [HT.out]
    exact ⟨pa, pc, rfl, HBA.out.row.stable (rdOf_stable _) (((((Keeps.refl _ _).set (by show ¬ (W1.heap.size ≤ w.heap.size + 1); omega) _).set (by show ¬ (W1.heap.size ≤ w.heap.size); omega) _).set (by show ¬ (W1.heap.size ≤ w.heap.size); omega) _).alloc _) (fun b h _ => by omega),
     (((HBA.out.below.setCell (Nat.le_succ _) _).setCell (Nat.le_refl _) _).setCell (Nat.le_refl _) _).alloc (by have := HBA.out.below.size; simpa using this) _⟩
   ·have hb16 : (z.tag == 16) = false := by simp [h16]
    have HT : Hid (PR = (p ++ [(xs.length : Int)], ((runesB ⟨z.text.toArray⟩).length : Int))) := Lib.hid (by rw [← HPB.out]; exact behind_tx p xs z h16)
    clear h16
    go_upto_region 12 with (at_builtin; go_must (refine wpList_append_R _ rfl _ _ 27 27 rfl rowInt eltInt W1.heap.size (.slice pa p.length pc) _ (xs := p) (ys := [(xs.length : Int)]) (news := [.int .i64 xs.length]) rfl rfl (HBA.out.row.stable (rdOf_stable _) (.all (((Below.refl _ _).alloc (Nat.le_refl _) _).alloc (by simp) _)) (fun _ h _ => h)) (by simp; omega) (src_tag _ _ 1 (by simp)) (NewsR.one rfl rfl) hrl ?_); intro v8 w8 hR8 hB8 hG8 _; obtain ⟨qa, qn, qc, hne⟩ := slice_any' hR8; subst hne; have HR8 := Lib.hid hR8; have HG8 := Lib.hid hG8; have hx8 := Lib.hid ((((Below.refl W1.heap.size wr).alloc hws _).alloc (by simp; omega) _).trans hB8); have hP8 := Lib.hid ((hx8.out.block _ HZ.out).trans HBA.out.blk); obtain ⟨q8, g8⟩ := blk hP8.out; clear hR8 hB8 hG8)
    obtain rfl : qn = (p ++ [(xs.length : Int)]).length := (SliceR.len HR8.out).1
    have hN8 : w8.heap[wr.heap.size]? = some (.cells #[.int .i64 z.tag, .slice za z.attrs.length zc, .string ⟨z.text.toArray⟩, .slice zk z.kids.length zkc] 35) := (HG8.out.block wr.heap.size (by simp <;> omega) (fun e => by have := HBA.out.own _ e.symm; omega)).trans (heap_old _ _ (heap_new _ _ rfl))
    obtain ⟨W11, hW11⟩ : ∃ W11, w8.setCell ⟨w.heap.size + 1, 0, none⟩ (.slice qa (p ++ [(xs.length : Int)]).length qc) = W11 := ⟨_, rfl⟩
    rw [hW11]
    have hP11 : W11.heap[w.heap.size + 1]? = some (.cells #[.slice qa (p ++ [(xs.length : Int)]).length qc, .int .i64 0] 45) := by rw [← hW11, heap_set, if_pos rfl, hP8.out]; rfl
    have hR11 : W11.heap[w.heap.size]? = some (.cells #[.slice none 0 0, .int .i64 0] 45) := by rw [← hW11, heap_set, if_neg (by omega)]; exact (hx8.out.block w.heap.size (by omega)).trans HBA.out.res
    have hN11 : W11.heap[wr.heap.size]? = some (.cells #[.int .i64 z.tag, .slice za z.attrs.length zc, .string ⟨z.text.toArray⟩, .slice zk z.kids.length zkc] 35) := by rw [← hW11, heap_set, if_neg (by omega)]; exact hN8
    have hI11 : IntsR true W11 (fun b => W1.heap.size ≤ b) (.slice qa (p ++ [(xs.length : Int)]).length qc) (p ++ [(xs.length : Int)]) := by
     rw [← hW11]
     exact HR8.out.stable (rdOf_stable _) ((Keeps.refl _ _).set (by show ¬ (W1.heap.size ≤ w.heap.size + 1); omega) _) (fun _ h _ => h)
    have hB11 : Below w.heap.size w W11 := by
     rw [← hW11]
     exact (HBA.out.below.trans (hx8.out.mono (by omega))).setCell (Nat.le_succ _) _
    obtain ⟨ca, cc, w12, hcv, hb12⟩ := runes_len ⟨z.text.toArray⟩ W11 (by show z.text.toArray.size ≤ _; simp; omega)
    have HI11 := Lib.hid hI11
    have HB11 := Lib.hid hB11
    have HB12 := Lib.hid hb12
    have hR12 := Lib.hid (heap_below hb12 hR11)
    have hP12 := Lib.hid (heap_below hb12 hP11)
    obtain ⟨q3, g3⟩ := blk hP12.out
    obtain ⟨q4, g4⟩ := blk hR12.out
    obtain ⟨q5, g5⟩ := blk hN11
    clear hW11 hP11 hR11 hI11 hB11 hb12 q8 g8 p1 f1 r1 s1 hN11 hN8
    go_wp2_with fail
    refine bodyPost_ret (results_p1 rfl _ _ w.heap.size (.slice qa (p ++ [(xs.length : Int)]).length qc) (.int .i64 ((runesB ⟨z.text.toArray⟩).length : Int)) rfl (by simp [heap_set, putIn, hR12.out])) rfl ?_
    rw [HT.out]
    refine ⟨qa, qc, rfl, (HI11.out.below (rdOf_stable _) HB12.out).stable (rdOf_stable _) ((((Keeps.refl _ _).set (by show ¬ (W1.heap.size ≤ w.heap.size + 1); omega) _).set (by show ¬ (W1.heap.size ≤ w.heap.size); omega) _).set (by show ¬ (W1.heap.size ≤ w.heap.size); omega) _) (fun b h _ => by omega), ?_⟩
    exact (((below_from HB11.out HB12.out).setCell (Nat.le_succ _) _).setCell (Nat.le_refl _) _).setCell (Nat.le_refl _) _
end Go.Proofs.YteognfhemmogpaaGreatDoor
namespace Go.Proofs.Qw
open Go.RowKit Go.Proofs.YteognfhemmogpaaGreatDoor
theorem spine_app {n : Nat} (xs : List Nod) {ys : List Nod} (h : Spine (n + 1) ys) : Spine (n + 1) (xs ++ ys) := by
 obtain ⟨as', z, rfl, hz⟩ := h
 exact ⟨xs ++ as', z, by rw [List.append_assoc], hz⟩
theorem spine_down : ∀ {n m : Nat} {l : List Nod}, m ≤ n → Spine n l → Spine m l
 | _, 0, _, _, _ => trivial
 | n + 1, m + 1, l, h, ⟨xs, z, e, hz⟩ => ⟨xs, z, e, spine_down (by omega) hz⟩
theorem gr_spine : ∀ (ks : List (Cel → Option Wr)) (l : List Cel) (b : Cel), l.getLast? = some b → Spine ((wrapsOf ks b).length + 1) (gr ks l)
 | [], l, b, hb => by
  have hne : l ≠ [] := fun e => by rw [e] at hb; cases hb
  have h := gr_ne [] hne
  obtain ⟨z, hz⟩ : ∃ z, (gr [] l).getLast? = some z := by
   cases h2 : (gr [] l).getLast? with
   | none => exact absurd (List.getLast?_eq_none_iff.1 h2) h
   | some z => exact ⟨z, rfl⟩
  obtain ⟨xs, e⟩ := List.getLast?_eq_some_iff.1 hz
  exact ⟨xs, z, e, trivial⟩
 | k :: ks, l, b, hb => by
  obtain ⟨gs, g, h1, h2, _⟩ := parts_snoc (keyR_symm k) (keyR_trans k) default _ l b (Nat.le_refl _) hb
  have hbg : b ∈ g := List.mem_of_getLast? h2
  have hk := key_all l.length l (Nat.le_refl _) g (by rw [h1]; simp) b hbg
  have ih := gr_spine ks g b h2
  unfold gr
  rw [h1, List.flatMap_append]
  have e1 : ([g].flatMap fun p => wrapO (k (p.headD default)) (gr ks p)) = wrapO (k b) (gr ks g) := by rw [hk]; simp
  rw [e1, wraps_cons]
  cases hkb : k b with
  | none => exact spine_app _ ih
  | some w => exact spine_app _ ⟨[], _, rfl, ih⟩
theorem counts_flat {α : Type} (f : α → List Nod) (g : α → Nat) (m : Nat) : ∀ l : List α, (∀ x ∈ l, Nod.counts (f x) ≤ m * g x) → Nod.counts (l.flatMap f) ≤ m * (l.map g).sum
 | [], _ => by simp [Nod.counts]
 | x :: l, h => by
  rw [List.flatMap_cons, Nod.counts_append, List.map_cons, List.sum_cons, Nat.mul_add]
  have h1 := h x (by simp)
  have h2 := counts_flat f g m l (fun y hy => h y (by simp [hy]))
  omega
theorem gr_counts : ∀ (ks : List (Cel → Option Wr)) (l : List Cel), Nod.counts (gr ks l) ≤ (ks.length + 1) * l.length
 | [], l => by
  unfold gr leavesN
  have h := parts_sum textR l
  have h1 := counts_flat (fun p : List Cel => [leafP p]) List.length 1 (partsBy textR l) (fun p hp => by
   have hpos := List.length_pos_iff.2 (parts_ne _ l.length l (Nat.le_refl _) p hp)
   have e : Nod.counts [leafP p] = 1 := by
    unfold leafP
    split <;> rfl
   rw [e]
   omega)
  have e : ∀ ps : List (List Cel), ps.flatMap (fun p => [leafP p]) = ps.map leafP := fun ps => by induction ps with | nil => rfl | cons a ps ih => rw [List.flatMap_cons, ih]; rfl
  rw [e, h] at h1
  simpa using h1
 | k :: ks, l => by
  unfold gr
  have h := parts_sum (fun a b => decide (k a = k b)) l
  have h1 := counts_flat (fun p : List Cel => wrapO (k (p.headD default)) (gr ks p)) List.length ((k :: ks).length + 1) (partsBy (fun a b => decide (k a = k b)) l) (fun p hp => by
   have hg := gr_counts ks p
   have hpos := List.length_pos_iff.2 (parts_ne _ l.length l (Nat.le_refl _) p hp)
   have e : ((k :: ks).length + 1) * p.length = (ks.length + 1) * p.length + p.length := by rw [List.length_cons, Nat.add_mul, Nat.one_mul]
   cases k (p.headD default) with
   | none => simp only [wrapO]; omega
   | some w =>
    simp only [wrapO]
    have : Nod.counts [Nod.mk w.1 w.2 [] (gr ks p)] = 1 + Nod.counts (gr ks p) := by rw [Nod.counts, Nod.counts, Nod.count]; rfl
    omega)
  rw [h] at h1
  exact h1
theorem shared_le : ∀ (a b : List Wr), sharedW a b ≤ a.length ∧ sharedW a b ≤ b.length
 | [], b => by cases b <;> simp [sharedW]
 | x :: a, [] => by simp [sharedW]
 | x :: a, y :: b => by
  have := shared_le a b
  rw [sharedW]
  split
  ·simp only [List.length_cons]; omega
  ·simp
theorem rowK_len (c : Cel) : (wrapsOf rowK c).length ≤ 5 := wraps_len 4 c
theorem row_next {l : List Cel} {k : Nat} {b c : Cel} (hb : l[k]? = some b) (hc : l[k + 1]? = some c) : gr rowK (l.take (k + 2)) = stepW rowK b c (gr rowK (l.take (k + 1))) := by
 rw [take_some hc, gr_snoc b c rowK _ (by rw [take_some hb]; simp), step_add b c rowK _ row_apart]
theorem row_first {l : List Cel} {c : Cel} (hc : l[0]? = some c) : gr rowK (l.take 1) = putW [] (wrapsOf rowK c) (cellN c) 0 := by
 rw [take_some hc, List.take_zero, List.nil_append, gr_single, putW]
 rfl
def rowPts (l : List Cel) (k : Nat) : List (List Int × Int) := (List.range k).map fun i => behindP (wrapsOf rowK (l.getD i default)).length 0 [] (gr rowK (l.take (i + 1)))
theorem pts_snoc {l : List Cel} {k : Nat} {c : Cel} (hc : l[k]? = some c) : rowPts l (k + 1) = rowPts l k ++ [behindP (wrapsOf rowK c).length 0 [] (gr rowK (l.take (k + 1)))] := by
 unfold rowPts
 rw [List.range_succ, List.map_append]
 simp only [List.map_cons, List.map_nil]
 rw [List.getD_eq_getElem?_getD, hc]
 rfl
theorem pts_len (l : List Cel) (k : Nat) : (rowPts l k).length = k := by unfold rowPts; simp
end Go.Proofs.Qw
