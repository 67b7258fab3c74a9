/- The walk of a view's node. -/
import Derived.Test.YtjpgffihafknlaaGreatDoorVwClosB
set_option linter.unusedVariables false
set_option linter.unusedSimpArgs false
namespace Go.Proofs.Qw
open Go.RowKit
def badP (t : Int) (n : Nat) : Plc → Bool
 | none => false
 | some ([], k) => decide (k < 0)
 | some (i :: _, k) => decide (k < 0) || (asideT t || decide (i < 0) || decide ((n : Int) ≤ i))
theorem norm_good {t : Int} {n : Nat} {p : Plc} (h : badP t n p = false) : normP t n p = p := by
 unfold badP at h
 unfold normP
 split
 ·rfl
 ·simp only [decide_eq_false_iff_not] at h
  rw [if_neg h]
 ·simp only [Bool.or_eq_false_iff, decide_eq_false_iff_not] at h
  obtain ⟨h1, ⟨h2, h3⟩, h4⟩ := h
  rw [if_neg (by rw [h2]; simp; omega), if_neg h1]
theorem tagC_cases (t : Int) : tagC t = 1 ∨ tagC t = 5 ∨ tagC t = 0 ∨ tagC t = 4 ∨ tagC t = 3 ∨ (tagC t = 2 ∧ -100 ≤ t ∧ t ≤ 100) := by
 unfold tagC
 split
 ·simp
 ·split
  ·simp
  ·split
   ·rename_i h; simp; omega
   ·split
    ·simp
    ·split
     ·simp
     ·simp
theorem node_1 {n : Nod} (h : tagC n.tag = 1) (a : Aro) (p : Plc) (s : VSt) : nodeV n a p s = textV a (runesB ⟨n.text.toArray⟩) ((normP n.tag n.kids.length p).map (·.2)) s := by
 obtain ⟨t, ats, x, ks⟩ := n
 have h : tagC t = 1 := h
 rw [nodeV]
 simp only [if_pos h]
 rfl
theorem node_5 {n : Nod} (h : tagC n.tag = 5) (a : Aro) (p : Plc) (s : VSt) : nodeV n a p s = putV a 10 (if (normP n.tag n.kids.length p).isSome = true then metV s else s) := by
 obtain ⟨t, ats, x, ks⟩ := n
 have h : tagC t = 5 := h
 rw [nodeV]
 simp only [if_neg (show ¬ tagC t = 1 by omega), if_pos h]
 rfl
theorem node_4 {n : Nod} (h : tagC n.tag = 0 ∨ tagC n.tag = 4) (a : Aro) (p : Plc) (s : VSt) : nodeV n a p s = kidsV n.kids 0 { a with bits := bitsN n a.bits, href := linkN n a.href } (normP n.tag n.kids.length p) s := by
 obtain ⟨t, ats, x, ks⟩ := n
 have h : tagC t = 0 ∨ tagC t = 4 := h
 rw [nodeV]
 simp only [if_neg (show ¬ tagC t = 1 by omega), if_neg (show ¬ tagC t = 5 by omega), if_neg (show ¬ tagC t = 3 by omega), if_neg (show ¬ tagC t = 2 by omega)]
 rfl
theorem node_2 {n : Nod} (h : tagC n.tag = 2) (a : Aro) (p : Plc) (s : VSt) : nodeV n a p s = { (kidsV n.kids 0 (boxA n.tag a) (normP n.tag n.kids.length p) { s with opn := false }) with opn := false } := by
 obtain ⟨t, ats, x, ks⟩ := n
 have h : tagC t = 2 := h
 rw [nodeV]
 simp only [if_neg (show ¬ tagC t = 1 by omega), if_neg (show ¬ tagC t = 5 by omega), if_neg (show ¬ tagC t = 3 by omega), if_pos h]
 rfl
theorem norm_text {t : Int} (h : asideT t = true) (n : Nat) (p : Plc) : normP t n p = none ∨ ∃ k : Nat, normP t n p = some ([], (k : Int)) := by
 unfold normP
 split
 ·exact .inl rfl
 ·rename_i k
  refine .inr ⟨(if k < 0 then 0 else k).toNat, ?_⟩
  split
  ·simp
  ·congr 2; omega
 ·rw [if_pos (.inl h)]
  exact .inr ⟨0, rfl⟩
end Go.Proofs.Qw
namespace Go.Proofs.YtjpgffihafknlaaGreatDoor
open Go.RowKit
open Go.Proofs.Qw
attribute [local go_sem] Oper.semAt_some
theorem node_3 {n : Nod} (h : tagC n.tag = 3) (a : Aro) (p : Plc) (s : VSt) : nodeV n a p s = lineE n a (normP n.tag n.kids.length p) s := by
 obtain ⟨t, ats, x, ks⟩ := n
 have h : tagC t = 3 := h
 rw [nodeV]
 simp only [if_neg (show ¬ tagC t = 1 by omega), if_neg (show ¬ tagC t = 5 by omega), if_pos h]
 rfl
theorem three_objs (w : World) (a b c : Obj) : ∃ W1, ((w.alloc a).alloc b).alloc c = W1 ∧ Below w.heap.size w W1 ∧ W1.heap[w.heap.size]? = some a ∧ W1.heap[w.heap.size + 1]? = some b ∧ W1.heap[w.heap.size + 1 + 1]? = some c :=
 ⟨_, rfl, (((Below.refl _ _).alloc (Nat.le_refl _) _).alloc (by simp) _).alloc (by simp; omega) _, heap_old _ _ (heap_old _ _ (heap_new _ _ rfl)), heap_old _ _ (heap_new _ _ (by simp)), heap_new _ _ (by simp)⟩
set_option maxRecDepth 100000 in
set_option maxHeartbeats 4000000 in
theorem node_step (HCs : CssP) (h : Nat) (hk : KidsAt h) : ViewAt h := by
 intro n na nk pv p B a lv s w w0 S S' hA hK he h0 hwB hV ha ho hav hc hp
 have hBz := hV.lt
 obtain ⟨la, lc, rfl⟩ := hA.slice
 obtain ⟨ka, kc, rfl⟩ := hK.slice
 obtain ⟨pa, rfl⟩ : ∃ pa, pv = .pointer pa := by rcases hp with ⟨_, h⟩ | ⟨_, _, _, _, _, h, _⟩ <;> exact ⟨_, h⟩
 obtain ⟨W1, hW1, hB, z3, z4, z5⟩ := three_objs w (.cells #[.pointer (some ⟨B, 0, none⟩)] 68) (.cells #[.int .i64 n.tag, .slice la n.attrs.length lc, .string ⟨n.text.toArray⟩, .slice ka n.kids.length kc] 25) (.cells #[.pointer pa] 87)
 have hx1 := below_from h0 hB
 have hs1 := hB.size
 have hz5 := lt_of_heap z5
 have HAs : Hid (∀ X, Below W1.heap.size W1 X → Calls Tryz.prog 46 #[.agg #[.int .i64 n.tag, .slice la n.attrs.length lc, .string ⟨n.text.toArray⟩, .slice ka n.kids.length kc]] X fun e w' => e = .returned (.bool (asideT n.tag)) ∧ Below X.heap.size X w') := Lib.hid fun X _ => aside_any n _ _ X w0 S h hA hK
 have HZ := Lib.hid (And.intro z3 (And.intro z4 z5))
 have HB := Lib.hid hB
 have HX1 := Lib.hid hx1
 have HAK := Lib.hid (And.intro hA hK)
 have HW := Lib.hid (And.intro he (And.intro h0 hwB))
 have HV := Lib.hid hV
 have HAr := Lib.hid (And.intro ha (And.intro ho (And.intro hav hc)))
 have HP := Lib.hid (hp.keep (KeepT.of hB))
 have HW1 := Lib.hid hW1
 have HBad : Hid (badP n.tag n.kids.length p = badP n.tag n.kids.length p) := Lib.hid rfl
 obtain ⟨bad, hbad⟩ : ∃ b, badP n.tag n.kids.length p = b := ⟨_, rfl⟩
 have HBd := Lib.hid hbad
 have HKl := Lib.hid (SliceR.len hK).2
 clear hA hK he h0 hwB hV ha ho hav hc hp hB hx1 hW1 z3 z4 z5 hbad HBad
 unfold nodV
 go_enter Tryz.func63, Tryz.ntmps63
 go_upto_region 1 with fail
 rw [HW1.out]
 go_cut [49] from 8 to 49 (fun r wx => r = .bool bad ∧ Below W1.heap.size W1 wx)
 case first => as_aux_lemma =>
  rcases HP.out with ⟨rfl, hpa⟩ | ⟨path, k, b, v, rfl, hpa, h3, h4, h5⟩
  all_goals cases hpa
  ·have hbd : bad = false := HBd.out.symm
   subst hbd
   obtain ⟨p5, f5⟩ := blk HZ.out.2.2
   go_quiet (fail)
   all_goals go_wp2_with fail
   go_meet
   case rel => exact ⟨rfl, drewN_below (Below.refl _ _)⟩
  ·cases path with
   | nil =>
    obtain ⟨pa2, pc2, rfl⟩ := h5.slice
    obtain ⟨p5, f5⟩ := blk HZ.out.2.2
    obtain ⟨p6, f6⟩ := blk h4
    have hbd := HBd.out
    by_cases hk0 : k < 0
    ·have hbd2 : bad = true := by rw [← hbd]; show decide (k < 0) = true; simpa using hk0
     subst hbd2
     clear hbd
     go_quiet (fail)
     all_goals go_wp2_with fail
     go_meet
     case rel => exact ⟨rfl, drewN_below (Below.refl _ _)⟩
    ·have hbd2 : bad = false := by rw [← hbd]; show decide (k < 0) = false; simpa using hk0
     subst hbd2
     have hk1 : decide (k < 0) = false := by simpa using hk0
     clear hbd hk0
     go_quiet (fail)
     all_goals go_wp2_with fail
     go_meet
     case rel => exact ⟨rfl, drewN_below (Below.refl _ _)⟩
   | cons i0 r =>
    obtain ⟨pa2, pc2, rfl⟩ := h5.slice
    obtain ⟨hpl1, hpl2⟩ : r.length + 1 ≤ pc2 ∧ pc2 ≤ maxLen := ⟨(SliceR.len h5).2.1, (SliceR.len h5).2.2⟩
    obtain ⟨a2, c2, e2, _, _, hx2⟩ := ints_shape h5
    cases e2
    obtain ⟨pb, po, rfl, hzp, hcp⟩ := hx2 0 i0 rfl
    have hcp1 : W1.cell? ⟨pb, po, none⟩ = some (.int .i64 i0) := (HX1.out.cell hzp).trans hcp
    have hzp1 : pb < W1.heap.size := Nat.lt_of_lt_of_le hzp HX1.out.size
    obtain ⟨p5, f5⟩ := blk HZ.out.2.2
    obtain ⟨p6, f6⟩ := blk h4
    have hbd := HBd.out
    have hlp : (0 : Int) < (r.length : Int) + 1 := by omega
    unfold maxLen at hpl2
    clear hx2
    by_cases hk0 : k < 0
    ·have hbd2 : bad = true := by rw [← hbd]; show (decide (k < 0) || _) = true; rw [decide_eq_true hk0]; rfl
     subst hbd2
     clear hbd
     go_quiet (fail)
     all_goals go_wp2_with fail
     go_meet
     case rel => exact ⟨rfl, drewN_below (Below.refl _ _)⟩
    ·have hk1 : decide (k < 0) = false := by simpa using hk0
     have HSt : Hid (∀ X, Below W1.heap.size W1 X → X.cell? ⟨w.heap.size + 1 + 1, 0, none⟩ = some (.pointer (some ⟨b, 0, none⟩)) ∧ X.cell? ⟨b, 0, none⟩ = some (.slice (some ⟨pb, po, none⟩) (r.length + 1) pc2) ∧ X.cell? ⟨b, 1, none⟩ = some (.int .i64 k) ∧ X.cell? ⟨pb, po, none⟩ = some (.int .i64 i0) ∧ X.cell? ⟨w.heap.size + 1, 0, none⟩ = some (.int .i64 n.tag) ∧ X.cell? ⟨w.heap.size + 1, 1, none⟩ = some (.slice la n.attrs.length lc) ∧ X.cell? ⟨w.heap.size + 1, 2, none⟩ = some (.string ⟨n.text.toArray⟩) ∧ X.cell? ⟨w.heap.size + 1, 3, none⟩ = some (.slice ka n.kids.length kc)) := Lib.hid fun X hX => by
      have g5 := heap_below hX HZ.out.2.2
      have g6 := heap_below hX h4
      have g4 := heap_below hX HZ.out.2.1
      exact ⟨by rw [(blk g5).1 0]; rfl, by rw [(blk g6).1 0]; rfl, by rw [(blk g6).1 1]; rfl, (hX.cell hzp1).trans hcp1, by rw [(blk g4).1 0]; rfl, by rw [(blk g4).1 1]; rfl, by rw [(blk g4).1 2]; rfl, by rw [(blk g4).1 3]; rfl⟩
     have hbd2 : (asideT n.tag || decide (i0 < 0) || decide ((n.kids.length : Int) ≤ i0)) = bad := by
      rw [← hbd]
      show _ = (decide (k < 0) || _)
      rw [hk1, Bool.false_or]
     generalize asideT n.tag = sd at *
     have hd : Below W1.heap.size W1 W1.drew := (Below.refl _ _).drew
     have hS0 := HSt.out _ hd
     clear hbd hk0 p5 f5 p6 f6
     have hcs : (sd = true ∧ bad = true) ∨ (sd = false ∧ i0 < 0 ∧ bad = true) ∨ (sd = false ∧ ¬ i0 < 0 ∧ (n.kids.length : Int) ≤ i0 ∧ bad = true) ∨ (sd = false ∧ ¬ i0 < 0 ∧ ¬ (n.kids.length : Int) ≤ i0 ∧ bad = false) := by
      rw [← hbd2]
      cases sd
      ·by_cases h1 : i0 < 0
       ·exact .inr (.inl ⟨rfl, h1, by simp [h1]⟩)
       ·by_cases h2 : (n.kids.length : Int) ≤ i0
        ·exact .inr (.inr (.inl ⟨rfl, h1, h2, by simp [h2]⟩))
        ·exact .inr (.inr (.inr ⟨rfl, h1, h2, by simp [h1, h2]⟩))
      ·exact .inl ⟨rfl, rfl⟩
     clear hbd2
     rcases hcs with ⟨rfl, rfl⟩ | ⟨rfl, h1, rfl⟩ | ⟨rfl, h1, h2, rfl⟩ | ⟨rfl, h1, h2, rfl⟩
     ·skip
      refine wp_region_T (fun X => X.cell? ⟨w.heap.size + 1 + 1, 0, none⟩ = some (.pointer (some ⟨b, 0, none⟩)) ∧ X.cell? ⟨b, 0, none⟩ = some (.slice (some ⟨pb, po, none⟩) (r.length + 1) pc2) ∧ X.cell? ⟨b, 1, none⟩ = some (.int .i64 k) ∧ X.cell? ⟨pb, po, none⟩ = some (.int .i64 i0) ∧ X.cell? ⟨w.heap.size + 1, 0, none⟩ = some (.int .i64 n.tag) ∧ X.cell? ⟨w.heap.size + 1, 1, none⟩ = some (.slice la n.attrs.length lc) ∧ X.cell? ⟨w.heap.size + 1, 2, none⟩ = some (.string ⟨n.text.toArray⟩) ∧ X.cell? ⟨w.heap.size + 1, 3, none⟩ = some (.slice ka n.kids.length kc)) (fun _ => True) 17 (by kernel_rfl) ?_
      refine anyT_takeA (i := 0) (v := ?_) (by simp only [qA, qS, qZ]; rfl) (by kernel_rfl) (by kernel_rfl) (by kernel_rfl) (by kernel_rfl) (fun _ _ _ h => h) (Or.inl ⟨by rfl, ?_⟩) (hS0) (Or.inr trivial) ?_
      rotate_left 1
      ·intro w hSw; (try dsimp only at hSw); go_simp; (first | done | with_reducible rfl)
      try simp only [Act.put, qI, qX, qY]
      refine anyT_takeA (i := 1) (v := ?_) (by simp only [qA, qS, qZ]; rfl) (by kernel_rfl) (by kernel_rfl) (by kernel_rfl) (by kernel_rfl) (fun _ _ _ h => h) (Or.inl ⟨by rfl, ?_⟩) (hS0) (Or.inr trivial) ?_
      rotate_left 1
      ·intro w hSw; (try dsimp only at hSw); go_simp; (first | done | with_reducible rfl)
      try simp only [Act.put, qI, qX, qY]
      refine anyT_takeA (i := 2) (v := ?_) (by simp only [qA, qS, qZ]; rfl) (by kernel_rfl) (by kernel_rfl) (by kernel_rfl) (by kernel_rfl) (fun _ _ _ h => h) (Or.inl ⟨by rfl, ?_⟩) (hS0) (Or.inr trivial) ?_
      rotate_left 1
      ·intro w hSw; (try dsimp only at hSw); go_simp; (first | done | with_reducible rfl)
      try simp only [Act.put, qI, qX, qY]
      refine anyT_takeA (i := 3) (v := ?_) (by simp only [qA, qS, qZ]; rfl) (by kernel_rfl) (by kernel_rfl) (by kernel_rfl) (by kernel_rfl) (fun _ _ _ h => h) (Or.inl ⟨by rfl, ?_⟩) (hS0) (Or.inr trivial) ?_
      rotate_left 1
      ·intro w hSw; (try dsimp only at hSw); go_simp; (first | done | with_reducible rfl)
      try simp only [Act.put, qI, qX, qY]
      refine anyT_takeA (i := 4) (v := ?_) (by simp only [qA, qS, qZ]; rfl) (by kernel_rfl) (by kernel_rfl) (by kernel_rfl) (by kernel_rfl) (fun _ _ _ h => h) (Or.inl ⟨by rfl, ?_⟩) (hS0) (Or.inr trivial) ?_
      rotate_left 1
      ·intro w hSw; (try dsimp only at hSw); go_simp; (first | done | with_reducible rfl)
      try simp only [Act.put, qI, qX, qY]
      refine anyT_takeA (i := 5) (v := ?_) (by simp only [qA, qS, qZ]; rfl) (by kernel_rfl) (by kernel_rfl) (by kernel_rfl) (by kernel_rfl) (fun _ _ _ h => h) (Or.inl ⟨by rfl, ?_⟩) (hS0) (Or.inr trivial) ?_
      rotate_left 1
      ·intro w hSw; (try dsimp only at hSw); go_simp; (first | done | with_reducible rfl)
      try simp only [Act.put, qI, qX, qY]
      refine anyT_takeA (i := 6) (v := ?_) (by simp only [qA, qS, qZ]; rfl) (by kernel_rfl) (by kernel_rfl) (by kernel_rfl) (by kernel_rfl) (fun _ _ _ h => h) (Or.inl ⟨by rfl, ?_⟩) (hS0) (Or.inr trivial) ?_
      rotate_left 1
      ·intro w hSw; (try dsimp only at hSw); go_simp; (first | done | with_reducible rfl)
      try simp only [Act.put, qI, qX, qY]
      refine anyT_takeA (i := 7) (v := ?_) (by simp only [qA, qS, qZ]; rfl) (by kernel_rfl) (by kernel_rfl) (by kernel_rfl) (by kernel_rfl) (fun _ _ _ h => h) (Or.inl ⟨by rfl, ?_⟩) (hS0) (Or.inr trivial) ?_
      rotate_left 1
      ·intro w hSw; (try dsimp only at hSw); go_simp; (first | done | with_reducible rfl)
      try simp only [Act.put, qI, qX, qY]
      refine anyT_takeA (i := 8) (v := ?_) (by simp only [qA, qS, qZ]; rfl) (by kernel_rfl) (by kernel_rfl) (by kernel_rfl) (by kernel_rfl) (fun _ _ _ h => h) (Or.inl ⟨by rfl, ?_⟩) (hS0) (Or.inr trivial) ?_
      rotate_left 1
      ·intro w hSw; (try dsimp only at hSw); go_simp; (first | done | with_reducible rfl)
      try simp only [Act.put, qI, qX, qY]
      refine anyT_takeA (i := 9) (v := ?_) (by simp only [qA, qS, qZ]; rfl) (by kernel_rfl) (by kernel_rfl) (by kernel_rfl) (by kernel_rfl) (fun _ _ _ h => h) (Or.inl ⟨by rfl, ?_⟩) (hS0) (Or.inr trivial) ?_
      rotate_left 1
      ·intro w hSw; (try dsimp only at hSw); go_simp; (first | done | with_reducible rfl)
      try simp only [Act.put, qI, qX, qY]
      refine anyT_takeA (i := 10) (v := ?_) (by simp only [qA, qS, qZ]; rfl) (by kernel_rfl) (by kernel_rfl) (by kernel_rfl) (by kernel_rfl) (fun _ _ _ h => h) (Or.inl ⟨by rfl, ?_⟩) (hS0) (Or.inr trivial) ?_
      rotate_left 1
      ·intro w hSw; (try dsimp only at hSw); go_simp; (first | done | with_reducible rfl)
      try simp only [Act.put, qI, qX, qY]
      refine anyT_takeA (i := 11) (v := ?_) (by simp only [qA, qS, qZ]; rfl) (by kernel_rfl) (by kernel_rfl) (by kernel_rfl) (by kernel_rfl) (fun _ _ _ h => h) (Or.inl ⟨by rfl, ?_⟩) (hS0) (Or.inr trivial) ?_
      rotate_left 1
      ·intro w hSw; (try dsimp only at hSw); go_simp; (first | done | with_reducible rfl)
      try simp only [Act.put, qI, qX, qY]
      refine anyT_takeA (i := 12) (v := ?_) (by simp only [qA, qS, qZ]; rfl) (by kernel_rfl) (by kernel_rfl) (by kernel_rfl) (by kernel_rfl) (fun _ _ _ h => h) (Or.inl ⟨by rfl, ?_⟩) (hS0) (Or.inr trivial) ?_
      rotate_left 1
      ·intro w hSw; (try dsimp only at hSw); go_simp; (first | done | with_reducible rfl)
      try simp only [Act.put, qI, qX, qY]
      refine anyT_takeA (i := 13) (v := ?_) (by simp only [qA, qS, qZ]; rfl) (by kernel_rfl) (by kernel_rfl) (by kernel_rfl) (by kernel_rfl) (fun _ _ _ h => h) (Or.inl ⟨by rfl, ?_⟩) (hS0) (Or.inr trivial) ?_
      rotate_left 1
      ·intro w hSw; (try dsimp only at hSw); go_simp; (first | done | with_reducible rfl)
      try simp only [Act.put, qI, qX, qY]
      refine anyT_takeA (i := 14) (v := ?_) (by simp only [qA, qS, qZ]; rfl) (by kernel_rfl) (by kernel_rfl) (by kernel_rfl) (by kernel_rfl) (fun _ _ _ h => h) (Or.inl ⟨by rfl, ?_⟩) (hS0) (Or.inr trivial) ?_
      rotate_left 1
      ·intro w hSw; (try dsimp only at hSw); go_simp; (first | done | with_reducible rfl)
      try simp only [Act.put, qI, qX, qY]
      refine anyT_takeA (i := 15) (v := ?_) (by simp only [qA, qS, qZ]; rfl) (by kernel_rfl) (by kernel_rfl) (by kernel_rfl) (by kernel_rfl) (fun _ _ _ h => h) (Or.inl ⟨by rfl, ?_⟩) (hS0) (Or.inr trivial) ?_
      rotate_left 1
      ·intro w hSw; (try dsimp only at hSw); go_simp; (first | done | with_reducible rfl)
      try simp only [Act.put, qI, qX, qY]
      refine anyT_takeA (i := 16) (v := ?_) (by simp only [qA, qS, qZ]; rfl) (by kernel_rfl) (by kernel_rfl) (by kernel_rfl) (by kernel_rfl) (fun _ _ _ h => h) (Or.inl ⟨by rfl, ?_⟩) (hS0) (Or.inr trivial) ?_
      rotate_left 1
      ·intro w hSw; (try dsimp only at hSw); go_simp; (first | done | with_reducible rfl)
      try simp only [Act.put, qI, qX, qY]
      refine anyT_ready (rs := [17]) (by kernel_rfl) (by simp) ?_
      refine AllReadyT.cons (by simp only [qA, qS, qZ]; rfl) (fun K hK => ?_) AllReadyT.nil
      go_simp
      refine (HAs.out _ hd).mono ?_
      rintro e w2 ⟨rfl, hb2⟩
      have hx2 := below_from hd hb2
      have hS2 := HSt.out _ hx2
      refine hK.out _ _ hS2 (Or.inl (by rfl)) ?_
      clear hK K
      try simp only [Act.put, qI, qX, qY]
      refine anyT_takeA (i := 18) (v := ?_) (by simp only [qA, qS, qZ]; rfl) (by kernel_rfl) (by kernel_rfl) (by kernel_rfl) (by kernel_rfl) (fun _ _ _ h => h) (Or.inl ⟨by rfl, ?_⟩) (hS2) (Or.inl (by rfl)) ?_
      rotate_left 1
      ·intro w hSw; (try dsimp only at hSw); go_simp; (first | done | with_reducible rfl)
      try simp only [Act.put, qI, qX, qY]
      refine anyT_takeA (i := 19) (v := undef) (by simp only [qA, qS, qZ]; rfl) (by kernel_rfl) (by kernel_rfl) (by kernel_rfl) (by kernel_rfl) (fun _ _ _ h => h) (Or.inr ⟨by rfl, rfl⟩) (hS2) (Or.inl (by rfl)) ?_
      try simp only [Act.put, qI, qX, qY]
      refine anyT_takeA (i := 20) (v := undef) (by simp only [qA, qS, qZ]; rfl) (by kernel_rfl) (by kernel_rfl) (by kernel_rfl) (by kernel_rfl) (fun _ _ _ h => h) (Or.inr ⟨by rfl, rfl⟩) (hS2) (Or.inl (by rfl)) ?_
      try simp only [Act.put, qI, qX, qY]
      refine anyT_takeA (i := 21) (v := undef) (by simp only [qA, qS, qZ]; rfl) (by kernel_rfl) (by kernel_rfl) (by kernel_rfl) (by kernel_rfl) (fun _ _ _ h => h) (Or.inr ⟨by rfl, rfl⟩) (hS2) (Or.inl (by rfl)) ?_
      try simp only [Act.put, qI, qX, qY]
      refine anyT_takeA (i := 22) (v := undef) (by simp only [qA, qS, qZ]; rfl) (by kernel_rfl) (by kernel_rfl) (by kernel_rfl) (by kernel_rfl) (fun _ _ _ h => h) (Or.inr ⟨by rfl, rfl⟩) (hS2) (Or.inl (by rfl)) ?_
      try simp only [Act.put, qI, qX, qY]
      refine anyT_takeA (i := 23) (v := undef) (by simp only [qA, qS, qZ]; rfl) (by kernel_rfl) (by kernel_rfl) (by kernel_rfl) (by kernel_rfl) (fun _ _ _ h => h) (Or.inr ⟨by rfl, rfl⟩) (hS2) (Or.inl (by rfl)) ?_
      try simp only [Act.put, qI, qX, qY]
      refine anyT_takeA (i := 24) (v := undef) (by simp only [qA, qS, qZ]; rfl) (by kernel_rfl) (by kernel_rfl) (by kernel_rfl) (by kernel_rfl) (fun _ _ _ h => h) (Or.inr ⟨by rfl, rfl⟩) (hS2) (Or.inl (by rfl)) ?_
      try simp only [Act.put, qI, qX, qY]
      refine anyT_takeA (i := 25) (v := undef) (by simp only [qA, qS, qZ]; rfl) (by kernel_rfl) (by kernel_rfl) (by kernel_rfl) (by kernel_rfl) (fun _ _ _ h => h) (Or.inr ⟨by rfl, rfl⟩) (hS2) (Or.inl (by rfl)) ?_
      try simp only [Act.put, qI, qX, qY]
      refine anyT_takeA (i := 26) (v := ?_) (by simp only [qA, qS, qZ]; rfl) (by kernel_rfl) (by kernel_rfl) (by kernel_rfl) (by kernel_rfl) (fun _ _ _ h => h) (Or.inl ⟨by rfl, ?_⟩) (hS2) (Or.inl (by rfl)) ?_
      rotate_left 1
      ·intro w hSw; (try dsimp only at hSw); go_simp; (first | done | with_reducible rfl)
      try simp only [Act.put, qI, qX, qY]
      refine anyT_takeA (i := 27) (v := ?_) (by simp only [qA, qS, qZ]; rfl) (by kernel_rfl) (by kernel_rfl) (by kernel_rfl) (by kernel_rfl) (fun _ _ _ h => h) (Or.inl ⟨by rfl, ?_⟩) (hS2) (Or.inl (by rfl)) ?_
      rotate_left 1
      ·intro w hSw; (try dsimp only at hSw); go_simp; (first | done | with_reducible rfl)
      try simp only [Act.put, qI, qX, qY]
      refine anyT_takeA (i := 28) (v := undef) (by simp only [qA, qS, qZ]; rfl) (by kernel_rfl) (by kernel_rfl) (by kernel_rfl) (by kernel_rfl) (fun _ _ _ h => h) (Or.inr ⟨by rfl, rfl⟩) (hS2) (Or.inl (by rfl)) ?_
      try simp only [Act.put, qI, qX, qY]
      refine anyT_takeA (i := 29) (v := undef) (by simp only [qA, qS, qZ]; rfl) (by kernel_rfl) (by kernel_rfl) (by kernel_rfl) (by kernel_rfl) (fun _ _ _ h => h) (Or.inr ⟨by rfl, rfl⟩) (hS2) (Or.inl (by rfl)) ?_
      try simp only [Act.put, qI, qX, qY]
      refine anyT_takeA (i := 30) (v := undef) (by simp only [qA, qS, qZ]; rfl) (by kernel_rfl) (by kernel_rfl) (by kernel_rfl) (by kernel_rfl) (fun _ _ _ h => h) (Or.inr ⟨by rfl, rfl⟩) (hS2) (Or.inl (by rfl)) ?_
      try simp only [Act.put, qI, qX, qY]
      refine anyT_takeA (i := 31) (v := undef) (by simp only [qA, qS, qZ]; rfl) (by kernel_rfl) (by kernel_rfl) (by kernel_rfl) (by kernel_rfl) (fun _ _ _ h => h) (Or.inr ⟨by rfl, rfl⟩) (hS2) (Or.inl (by rfl)) ?_
      try simp only [Act.put, qI, qX, qY]
      refine anyT_takeA (i := 32) (v := undef) (by simp only [qA, qS, qZ]; rfl) (by kernel_rfl) (by kernel_rfl) (by kernel_rfl) (by kernel_rfl) (fun _ _ _ h => h) (Or.inr ⟨by rfl, rfl⟩) (hS2) (Or.inl (by rfl)) ?_
      try simp only [Act.put, qI, qX, qY]
      refine anyT_takeA (i := 33) (v := undef) (by simp only [qA, qS, qZ]; rfl) (by kernel_rfl) (by kernel_rfl) (by kernel_rfl) (by kernel_rfl) (fun _ _ _ h => h) (Or.inr ⟨by rfl, rfl⟩) (hS2) (Or.inl (by rfl)) ?_
      try simp only [Act.put, qI, qX, qY]
      refine anyT_takeA (i := 34) (v := undef) (by simp only [qA, qS, qZ]; rfl) (by kernel_rfl) (by kernel_rfl) (by kernel_rfl) (by kernel_rfl) (fun _ _ _ h => h) (Or.inr ⟨by rfl, rfl⟩) (hS2) (Or.inl (by rfl)) ?_
      try simp only [Act.put, qI, qX, qY]
      refine anyT_takeA (i := 35) (v := undef) (by simp only [qA, qS, qZ]; rfl) (by kernel_rfl) (by kernel_rfl) (by kernel_rfl) (by kernel_rfl) (fun _ _ _ h => h) (Or.inr ⟨by rfl, rfl⟩) (hS2) (Or.inl (by rfl)) ?_
      try simp only [Act.put, qI, qX, qY]
      refine anyT_takeA (i := 36) (v := undef) (by simp only [qA, qS, qZ]; rfl) (by kernel_rfl) (by kernel_rfl) (by kernel_rfl) (by kernel_rfl) (fun _ _ _ h => h) (Or.inr ⟨by rfl, rfl⟩) (hS2) (Or.inl (by rfl)) ?_
      try simp only [Act.put, qI, qX, qY]
      refine anyT_takeA (i := 37) (v := undef) (by simp only [qA, qS, qZ]; rfl) (by kernel_rfl) (by kernel_rfl) (by kernel_rfl) (by kernel_rfl) (fun _ _ _ h => h) (Or.inr ⟨by rfl, rfl⟩) (hS2) (Or.inl (by rfl)) ?_
      try simp only [Act.put, qI, qX, qY]
      refine anyT_takeA (i := 38) (v := ?_) (by simp only [qA, qS, qZ]; rfl) (by kernel_rfl) (by kernel_rfl) (by kernel_rfl) (by kernel_rfl) (fun _ _ _ h => h) (Or.inl ⟨by rfl, ?_⟩) (hS2) (Or.inl (by rfl)) ?_
      rotate_left 1
      ·intro w hSw; (try dsimp only at hSw); go_simp; (first | done | with_reducible rfl)
      try simp only [Act.put, qI, qX, qY]
      refine anyT_takeA (i := 39) (v := ?_) (by simp only [qA, qS, qZ]; rfl) (by kernel_rfl) (by kernel_rfl) (by kernel_rfl) (by kernel_rfl) (fun _ _ _ h => h) (Or.inl ⟨by rfl, ?_⟩) (hS2) (Or.inl (by rfl)) ?_
      rotate_left 1
      ·intro w hSw; (try dsimp only at hSw); go_simp; (first | done | with_reducible rfl)
      try simp only [Act.put, qI, qX, qY]
      refine anyT_takeA (i := 40) (v := ?_) (by simp only [qA, qS, qZ]; rfl) (by kernel_rfl) (by kernel_rfl) (by kernel_rfl) (by kernel_rfl) (fun _ _ _ h => h) (Or.inl ⟨by rfl, ?_⟩) (hS2) (Or.inl (by rfl)) ?_
      rotate_left 1
      ·intro w hSw; (try dsimp only at hSw); go_simp; (first | done | with_reducible rfl)
      try simp only [Act.put, qI, qX, qY]
      refine anyT_takeA (i := 41) (v := ?_) (by simp only [qA, qS, qZ]; rfl) (by kernel_rfl) (by kernel_rfl) (by kernel_rfl) (by kernel_rfl) (fun _ _ _ h => h) (Or.inl ⟨by rfl, ?_⟩) (hS2) (Or.inl (by rfl)) ?_
      rotate_left 1
      ·intro w hSw; (try dsimp only at hSw); go_simp; (first | done | with_reducible rfl)
      try simp only [Act.put, qI, qX, qY]
      refine anyT_done (by kernel_rfl) ?_ _
      refine NoPanic.normal ?_
      go_wp2_with fail
      go_meet
      case rel => exact ⟨rfl, hx2⟩
     ·have h1d : decide (i0 < 0) = true := by simpa using h1
      refine wp_region_T (fun X => X.cell? ⟨w.heap.size + 1 + 1, 0, none⟩ = some (.pointer (some ⟨b, 0, none⟩)) ∧ X.cell? ⟨b, 0, none⟩ = some (.slice (some ⟨pb, po, none⟩) (r.length + 1) pc2) ∧ X.cell? ⟨b, 1, none⟩ = some (.int .i64 k) ∧ X.cell? ⟨pb, po, none⟩ = some (.int .i64 i0) ∧ X.cell? ⟨w.heap.size + 1, 0, none⟩ = some (.int .i64 n.tag) ∧ X.cell? ⟨w.heap.size + 1, 1, none⟩ = some (.slice la n.attrs.length lc) ∧ X.cell? ⟨w.heap.size + 1, 2, none⟩ = some (.string ⟨n.text.toArray⟩) ∧ X.cell? ⟨w.heap.size + 1, 3, none⟩ = some (.slice ka n.kids.length kc)) (fun _ => True) 17 (by kernel_rfl) ?_
      refine anyT_takeA (i := 0) (v := ?_) (by simp only [qA, qS, qZ]; rfl) (by kernel_rfl) (by kernel_rfl) (by kernel_rfl) (by kernel_rfl) (fun _ _ _ h => h) (Or.inl ⟨by rfl, ?_⟩) (hS0) (Or.inr trivial) ?_
      rotate_left 1
      ·intro w hSw; (try dsimp only at hSw); go_simp; (first | done | with_reducible rfl)
      try simp only [Act.put, qI, qX, qY]
      refine anyT_takeA (i := 1) (v := ?_) (by simp only [qA, qS, qZ]; rfl) (by kernel_rfl) (by kernel_rfl) (by kernel_rfl) (by kernel_rfl) (fun _ _ _ h => h) (Or.inl ⟨by rfl, ?_⟩) (hS0) (Or.inr trivial) ?_
      rotate_left 1
      ·intro w hSw; (try dsimp only at hSw); go_simp; (first | done | with_reducible rfl)
      try simp only [Act.put, qI, qX, qY]
      refine anyT_takeA (i := 2) (v := ?_) (by simp only [qA, qS, qZ]; rfl) (by kernel_rfl) (by kernel_rfl) (by kernel_rfl) (by kernel_rfl) (fun _ _ _ h => h) (Or.inl ⟨by rfl, ?_⟩) (hS0) (Or.inr trivial) ?_
      rotate_left 1
      ·intro w hSw; (try dsimp only at hSw); go_simp; (first | done | with_reducible rfl)
      try simp only [Act.put, qI, qX, qY]
      refine anyT_takeA (i := 3) (v := ?_) (by simp only [qA, qS, qZ]; rfl) (by kernel_rfl) (by kernel_rfl) (by kernel_rfl) (by kernel_rfl) (fun _ _ _ h => h) (Or.inl ⟨by rfl, ?_⟩) (hS0) (Or.inr trivial) ?_
      rotate_left 1
      ·intro w hSw; (try dsimp only at hSw); go_simp; (first | done | with_reducible rfl)
      try simp only [Act.put, qI, qX, qY]
      refine anyT_takeA (i := 4) (v := ?_) (by simp only [qA, qS, qZ]; rfl) (by kernel_rfl) (by kernel_rfl) (by kernel_rfl) (by kernel_rfl) (fun _ _ _ h => h) (Or.inl ⟨by rfl, ?_⟩) (hS0) (Or.inr trivial) ?_
      rotate_left 1
      ·intro w hSw; (try dsimp only at hSw); go_simp; (first | done | with_reducible rfl)
      try simp only [Act.put, qI, qX, qY]
      refine anyT_takeA (i := 5) (v := ?_) (by simp only [qA, qS, qZ]; rfl) (by kernel_rfl) (by kernel_rfl) (by kernel_rfl) (by kernel_rfl) (fun _ _ _ h => h) (Or.inl ⟨by rfl, ?_⟩) (hS0) (Or.inr trivial) ?_
      rotate_left 1
      ·intro w hSw; (try dsimp only at hSw); go_simp; (first | done | with_reducible rfl)
      try simp only [Act.put, qI, qX, qY]
      refine anyT_takeA (i := 6) (v := ?_) (by simp only [qA, qS, qZ]; rfl) (by kernel_rfl) (by kernel_rfl) (by kernel_rfl) (by kernel_rfl) (fun _ _ _ h => h) (Or.inl ⟨by rfl, ?_⟩) (hS0) (Or.inr trivial) ?_
      rotate_left 1
      ·intro w hSw; (try dsimp only at hSw); go_simp; (first | done | with_reducible rfl)
      try simp only [Act.put, qI, qX, qY]
      refine anyT_takeA (i := 7) (v := ?_) (by simp only [qA, qS, qZ]; rfl) (by kernel_rfl) (by kernel_rfl) (by kernel_rfl) (by kernel_rfl) (fun _ _ _ h => h) (Or.inl ⟨by rfl, ?_⟩) (hS0) (Or.inr trivial) ?_
      rotate_left 1
      ·intro w hSw; (try dsimp only at hSw); go_simp; (first | done | with_reducible rfl)
      try simp only [Act.put, qI, qX, qY]
      refine anyT_takeA (i := 8) (v := ?_) (by simp only [qA, qS, qZ]; rfl) (by kernel_rfl) (by kernel_rfl) (by kernel_rfl) (by kernel_rfl) (fun _ _ _ h => h) (Or.inl ⟨by rfl, ?_⟩) (hS0) (Or.inr trivial) ?_
      rotate_left 1
      ·intro w hSw; (try dsimp only at hSw); go_simp; (first | done | with_reducible rfl)
      try simp only [Act.put, qI, qX, qY]
      refine anyT_takeA (i := 9) (v := ?_) (by simp only [qA, qS, qZ]; rfl) (by kernel_rfl) (by kernel_rfl) (by kernel_rfl) (by kernel_rfl) (fun _ _ _ h => h) (Or.inl ⟨by rfl, ?_⟩) (hS0) (Or.inr trivial) ?_
      rotate_left 1
      ·intro w hSw; (try dsimp only at hSw); go_simp; (first | done | with_reducible rfl)
      try simp only [Act.put, qI, qX, qY]
      refine anyT_takeA (i := 10) (v := ?_) (by simp only [qA, qS, qZ]; rfl) (by kernel_rfl) (by kernel_rfl) (by kernel_rfl) (by kernel_rfl) (fun _ _ _ h => h) (Or.inl ⟨by rfl, ?_⟩) (hS0) (Or.inr trivial) ?_
      rotate_left 1
      ·intro w hSw; (try dsimp only at hSw); go_simp; (first | done | with_reducible rfl)
      try simp only [Act.put, qI, qX, qY]
      refine anyT_takeA (i := 11) (v := ?_) (by simp only [qA, qS, qZ]; rfl) (by kernel_rfl) (by kernel_rfl) (by kernel_rfl) (by kernel_rfl) (fun _ _ _ h => h) (Or.inl ⟨by rfl, ?_⟩) (hS0) (Or.inr trivial) ?_
      rotate_left 1
      ·intro w hSw; (try dsimp only at hSw); go_simp; (first | done | with_reducible rfl)
      try simp only [Act.put, qI, qX, qY]
      refine anyT_takeA (i := 12) (v := ?_) (by simp only [qA, qS, qZ]; rfl) (by kernel_rfl) (by kernel_rfl) (by kernel_rfl) (by kernel_rfl) (fun _ _ _ h => h) (Or.inl ⟨by rfl, ?_⟩) (hS0) (Or.inr trivial) ?_
      rotate_left 1
      ·intro w hSw; (try dsimp only at hSw); go_simp; (first | done | with_reducible rfl)
      try simp only [Act.put, qI, qX, qY]
      refine anyT_takeA (i := 13) (v := ?_) (by simp only [qA, qS, qZ]; rfl) (by kernel_rfl) (by kernel_rfl) (by kernel_rfl) (by kernel_rfl) (fun _ _ _ h => h) (Or.inl ⟨by rfl, ?_⟩) (hS0) (Or.inr trivial) ?_
      rotate_left 1
      ·intro w hSw; (try dsimp only at hSw); go_simp; (first | done | with_reducible rfl)
      try simp only [Act.put, qI, qX, qY]
      refine anyT_takeA (i := 14) (v := ?_) (by simp only [qA, qS, qZ]; rfl) (by kernel_rfl) (by kernel_rfl) (by kernel_rfl) (by kernel_rfl) (fun _ _ _ h => h) (Or.inl ⟨by rfl, ?_⟩) (hS0) (Or.inr trivial) ?_
      rotate_left 1
      ·intro w hSw; (try dsimp only at hSw); go_simp; (first | done | with_reducible rfl)
      try simp only [Act.put, qI, qX, qY]
      refine anyT_takeA (i := 15) (v := ?_) (by simp only [qA, qS, qZ]; rfl) (by kernel_rfl) (by kernel_rfl) (by kernel_rfl) (by kernel_rfl) (fun _ _ _ h => h) (Or.inl ⟨by rfl, ?_⟩) (hS0) (Or.inr trivial) ?_
      rotate_left 1
      ·intro w hSw; (try dsimp only at hSw); go_simp; (first | done | with_reducible rfl)
      try simp only [Act.put, qI, qX, qY]
      refine anyT_takeA (i := 16) (v := ?_) (by simp only [qA, qS, qZ]; rfl) (by kernel_rfl) (by kernel_rfl) (by kernel_rfl) (by kernel_rfl) (fun _ _ _ h => h) (Or.inl ⟨by rfl, ?_⟩) (hS0) (Or.inr trivial) ?_
      rotate_left 1
      ·intro w hSw; (try dsimp only at hSw); go_simp; (first | done | with_reducible rfl)
      try simp only [Act.put, qI, qX, qY]
      refine anyT_ready (rs := [17]) (by kernel_rfl) (by simp) ?_
      refine AllReadyT.cons (by simp only [qA, qS, qZ]; rfl) (fun K hK => ?_) AllReadyT.nil
      go_simp
      refine (HAs.out _ hd).mono ?_
      rintro e w2 ⟨rfl, hb2⟩
      have hx2 := below_from hd hb2
      have hS2 := HSt.out _ hx2
      refine hK.out _ _ hS2 (Or.inl (by rfl)) ?_
      clear hK K
      try simp only [Act.put, qI, qX, qY]
      refine anyT_takeA (i := 18) (v := ?_) (by simp only [qA, qS, qZ]; rfl) (by kernel_rfl) (by kernel_rfl) (by kernel_rfl) (by kernel_rfl) (fun _ _ _ h => h) (Or.inl ⟨by rfl, ?_⟩) (hS2) (Or.inl (by rfl)) ?_
      rotate_left 1
      ·intro w hSw; (try dsimp only at hSw); go_simp; (first | done | with_reducible rfl)
      try simp only [Act.put, qI, qX, qY]
      refine anyT_takeA (i := 19) (v := ?_) (by simp only [qA, qS, qZ]; rfl) (by kernel_rfl) (by kernel_rfl) (by kernel_rfl) (by kernel_rfl) (fun _ _ _ h => h) (Or.inl ⟨by rfl, ?_⟩) (hS2) (Or.inl (by rfl)) ?_
      rotate_left 1
      ·intro w hSw; (try dsimp only at hSw); go_simp; (first | done | with_reducible rfl)
      try simp only [Act.put, qI, qX, qY]
      refine anyT_takeA (i := 20) (v := ?_) (by simp only [qA, qS, qZ]; rfl) (by kernel_rfl) (by kernel_rfl) (by kernel_rfl) (by kernel_rfl) (fun _ _ _ h => h) (Or.inl ⟨by rfl, ?_⟩) (hS2) (Or.inl (by rfl)) ?_
      rotate_left 1
      ·intro w hSw; (try dsimp only at hSw); go_simp; (first | done | with_reducible rfl)
      try simp only [Act.put, qI, qX, qY]
      refine anyT_takeA (i := 21) (v := ?_) (by simp only [qA, qS, qZ]; rfl) (by kernel_rfl) (by kernel_rfl) (by kernel_rfl) (by kernel_rfl) (fun _ _ _ h => h) (Or.inl ⟨by rfl, ?_⟩) (hS2) (Or.inl (by rfl)) ?_
      rotate_left 1
      ·intro w hSw; (try dsimp only at hSw); go_simp; (first | done | with_reducible rfl)
      try simp only [Act.put, qI, qX, qY]
      refine anyT_takeA (i := 22) (v := ?_) (by simp only [qA, qS, qZ]; rfl) (by kernel_rfl) (by kernel_rfl) (by kernel_rfl) (by kernel_rfl) (fun _ _ _ h => h) (Or.inl ⟨by rfl, ?_⟩) (hS2) (Or.inl (by rfl)) ?_
      rotate_left 1
      ·intro w hSw; (try dsimp only at hSw); go_simp; (first | done | with_reducible rfl)
      try simp only [Act.put, qI, qX, qY]
      refine anyT_takeA (i := 23) (v := ?_) (by simp only [qA, qS, qZ]; rfl) (by kernel_rfl) (by kernel_rfl) (by kernel_rfl) (by kernel_rfl) (fun _ _ _ h => h) (Or.inl ⟨by rfl, ?_⟩) (hS2) (Or.inl (by rfl)) ?_
      rotate_left 1
      ·intro w hSw; (try dsimp only at hSw); go_simp; (first | done | with_reducible rfl)
      try simp only [Act.put, qI, qX, qY]
      refine anyT_takeA (i := 24) (v := ?_) (by simp only [qA, qS, qZ]; rfl) (by kernel_rfl) (by kernel_rfl) (by kernel_rfl) (by kernel_rfl) (fun _ _ _ h => h) (Or.inl ⟨by rfl, ?_⟩) (hS2) (Or.inl (by rfl)) ?_
      rotate_left 1
      ·intro w hSw; (try dsimp only at hSw); go_simp; (first | done | with_reducible rfl)
      try simp only [Act.put, qI, qX, qY]
      refine anyT_takeA (i := 25) (v := ?_) (by simp only [qA, qS, qZ]; rfl) (by kernel_rfl) (by kernel_rfl) (by kernel_rfl) (by kernel_rfl) (fun _ _ _ h => h) (Or.inl ⟨by rfl, ?_⟩) (hS2) (Or.inl (by rfl)) ?_
      rotate_left 1
      ·intro w hSw; (try dsimp only at hSw); go_simp; (first | done | with_reducible rfl)
      try simp only [Act.put, qI, qX, qY]
      refine anyT_takeA (i := 26) (v := ?_) (by simp only [qA, qS, qZ]; rfl) (by kernel_rfl) (by kernel_rfl) (by kernel_rfl) (by kernel_rfl) (fun _ _ _ h => h) (Or.inl ⟨by rfl, ?_⟩) (hS2) (Or.inl (by rfl)) ?_
      rotate_left 1
      ·intro w hSw; (try dsimp only at hSw); go_simp; (first | done | with_reducible rfl)
      try simp only [Act.put, qI, qX, qY]
      refine anyT_takeA (i := 27) (v := ?_) (by simp only [qA, qS, qZ]; rfl) (by kernel_rfl) (by kernel_rfl) (by kernel_rfl) (by kernel_rfl) (fun _ _ _ h => h) (Or.inl ⟨by rfl, ?_⟩) (hS2) (Or.inl (by rfl)) ?_
      rotate_left 1
      ·intro w hSw; (try dsimp only at hSw); go_simp; (first | done | with_reducible rfl)
      try simp only [Act.put, qI, qX, qY]
      refine anyT_takeA (i := 28) (v := undef) (by simp only [qA, qS, qZ]; rfl) (by kernel_rfl) (by kernel_rfl) (by kernel_rfl) (by kernel_rfl) (fun _ _ _ h => h) (Or.inr ⟨by rfl, rfl⟩) (hS2) (Or.inl (by rfl)) ?_
      try simp only [Act.put, qI, qX, qY]
      refine anyT_takeA (i := 29) (v := undef) (by simp only [qA, qS, qZ]; rfl) (by kernel_rfl) (by kernel_rfl) (by kernel_rfl) (by kernel_rfl) (fun _ _ _ h => h) (Or.inr ⟨by rfl, rfl⟩) (hS2) (Or.inl (by rfl)) ?_
      try simp only [Act.put, qI, qX, qY]
      refine anyT_takeA (i := 30) (v := undef) (by simp only [qA, qS, qZ]; rfl) (by kernel_rfl) (by kernel_rfl) (by kernel_rfl) (by kernel_rfl) (fun _ _ _ h => h) (Or.inr ⟨by rfl, rfl⟩) (hS2) (Or.inl (by rfl)) ?_
      try simp only [Act.put, qI, qX, qY]
      refine anyT_takeA (i := 31) (v := undef) (by simp only [qA, qS, qZ]; rfl) (by kernel_rfl) (by kernel_rfl) (by kernel_rfl) (by kernel_rfl) (fun _ _ _ h => h) (Or.inr ⟨by rfl, rfl⟩) (hS2) (Or.inl (by rfl)) ?_
      try simp only [Act.put, qI, qX, qY]
      refine anyT_takeA (i := 32) (v := undef) (by simp only [qA, qS, qZ]; rfl) (by kernel_rfl) (by kernel_rfl) (by kernel_rfl) (by kernel_rfl) (fun _ _ _ h => h) (Or.inr ⟨by rfl, rfl⟩) (hS2) (Or.inl (by rfl)) ?_
      try simp only [Act.put, qI, qX, qY]
      refine anyT_takeA (i := 33) (v := undef) (by simp only [qA, qS, qZ]; rfl) (by kernel_rfl) (by kernel_rfl) (by kernel_rfl) (by kernel_rfl) (fun _ _ _ h => h) (Or.inr ⟨by rfl, rfl⟩) (hS2) (Or.inl (by rfl)) ?_
      try simp only [Act.put, qI, qX, qY]
      refine anyT_takeA (i := 34) (v := undef) (by simp only [qA, qS, qZ]; rfl) (by kernel_rfl) (by kernel_rfl) (by kernel_rfl) (by kernel_rfl) (fun _ _ _ h => h) (Or.inr ⟨by rfl, rfl⟩) (hS2) (Or.inl (by rfl)) ?_
      try simp only [Act.put, qI, qX, qY]
      refine anyT_takeA (i := 35) (v := undef) (by simp only [qA, qS, qZ]; rfl) (by kernel_rfl) (by kernel_rfl) (by kernel_rfl) (by kernel_rfl) (fun _ _ _ h => h) (Or.inr ⟨by rfl, rfl⟩) (hS2) (Or.inl (by rfl)) ?_
      try simp only [Act.put, qI, qX, qY]
      refine anyT_takeA (i := 36) (v := undef) (by simp only [qA, qS, qZ]; rfl) (by kernel_rfl) (by kernel_rfl) (by kernel_rfl) (by kernel_rfl) (fun _ _ _ h => h) (Or.inr ⟨by rfl, rfl⟩) (hS2) (Or.inl (by rfl)) ?_
      try simp only [Act.put, qI, qX, qY]
      refine anyT_takeA (i := 37) (v := undef) (by simp only [qA, qS, qZ]; rfl) (by kernel_rfl) (by kernel_rfl) (by kernel_rfl) (by kernel_rfl) (fun _ _ _ h => h) (Or.inr ⟨by rfl, rfl⟩) (hS2) (Or.inl (by rfl)) ?_
      try simp only [Act.put, qI, qX, qY]
      refine anyT_takeA (i := 38) (v := ?_) (by simp only [qA, qS, qZ]; rfl) (by kernel_rfl) (by kernel_rfl) (by kernel_rfl) (by kernel_rfl) (fun _ _ _ h => h) (Or.inl ⟨by rfl, ?_⟩) (hS2) (Or.inl (by rfl)) ?_
      rotate_left 1
      ·intro w hSw; (try dsimp only at hSw); go_simp; (first | done | with_reducible rfl)
      try simp only [Act.put, qI, qX, qY]
      refine anyT_takeA (i := 39) (v := ?_) (by simp only [qA, qS, qZ]; rfl) (by kernel_rfl) (by kernel_rfl) (by kernel_rfl) (by kernel_rfl) (fun _ _ _ h => h) (Or.inl ⟨by rfl, ?_⟩) (hS2) (Or.inl (by rfl)) ?_
      rotate_left 1
      ·intro w hSw; (try dsimp only at hSw); go_simp; (first | done | with_reducible rfl)
      try simp only [Act.put, qI, qX, qY]
      refine anyT_takeA (i := 40) (v := ?_) (by simp only [qA, qS, qZ]; rfl) (by kernel_rfl) (by kernel_rfl) (by kernel_rfl) (by kernel_rfl) (fun _ _ _ h => h) (Or.inl ⟨by rfl, ?_⟩) (hS2) (Or.inl (by rfl)) ?_
      rotate_left 1
      ·intro w hSw; (try dsimp only at hSw); go_simp; (first | done | with_reducible rfl)
      try simp only [Act.put, qI, qX, qY]
      refine anyT_takeA (i := 41) (v := ?_) (by simp only [qA, qS, qZ]; rfl) (by kernel_rfl) (by kernel_rfl) (by kernel_rfl) (by kernel_rfl) (fun _ _ _ h => h) (Or.inl ⟨by rfl, ?_⟩) (hS2) (Or.inl (by rfl)) ?_
      rotate_left 1
      ·intro w hSw; (try dsimp only at hSw); go_simp; (first | done | with_reducible rfl)
      try simp only [Act.put, qI, qX, qY]
      refine anyT_done (by kernel_rfl) ?_ _
      refine NoPanic.normal ?_
      go_wp2_with fail
      go_meet
      case rel => exact ⟨rfl, hx2⟩
     ·have h1d : decide (i0 < 0) = false := by simpa using h1
      have h2d : decide ((n.kids.length : Int) ≤ i0) = true := by simpa using h2
      have i1d : (0 : Int) ≤ i0 := by omega
      clear h1
      refine wp_region_T (fun X => X.cell? ⟨w.heap.size + 1 + 1, 0, none⟩ = some (.pointer (some ⟨b, 0, none⟩)) ∧ X.cell? ⟨b, 0, none⟩ = some (.slice (some ⟨pb, po, none⟩) (r.length + 1) pc2) ∧ X.cell? ⟨b, 1, none⟩ = some (.int .i64 k) ∧ X.cell? ⟨pb, po, none⟩ = some (.int .i64 i0) ∧ X.cell? ⟨w.heap.size + 1, 0, none⟩ = some (.int .i64 n.tag) ∧ X.cell? ⟨w.heap.size + 1, 1, none⟩ = some (.slice la n.attrs.length lc) ∧ X.cell? ⟨w.heap.size + 1, 2, none⟩ = some (.string ⟨n.text.toArray⟩) ∧ X.cell? ⟨w.heap.size + 1, 3, none⟩ = some (.slice ka n.kids.length kc)) (fun _ => True) 17 (by kernel_rfl) ?_
      refine anyT_takeA (i := 0) (v := ?_) (by simp only [qA, qS, qZ]; rfl) (by kernel_rfl) (by kernel_rfl) (by kernel_rfl) (by kernel_rfl) (fun _ _ _ h => h) (Or.inl ⟨by rfl, ?_⟩) (hS0) (Or.inr trivial) ?_
      rotate_left 1
      ·intro w hSw; (try dsimp only at hSw); go_simp; (first | done | with_reducible rfl)
      try simp only [Act.put, qI, qX, qY]
      refine anyT_takeA (i := 1) (v := ?_) (by simp only [qA, qS, qZ]; rfl) (by kernel_rfl) (by kernel_rfl) (by kernel_rfl) (by kernel_rfl) (fun _ _ _ h => h) (Or.inl ⟨by rfl, ?_⟩) (hS0) (Or.inr trivial) ?_
      rotate_left 1
      ·intro w hSw; (try dsimp only at hSw); go_simp; (first | done | with_reducible rfl)
      try simp only [Act.put, qI, qX, qY]
      refine anyT_takeA (i := 2) (v := ?_) (by simp only [qA, qS, qZ]; rfl) (by kernel_rfl) (by kernel_rfl) (by kernel_rfl) (by kernel_rfl) (fun _ _ _ h => h) (Or.inl ⟨by rfl, ?_⟩) (hS0) (Or.inr trivial) ?_
      rotate_left 1
      ·intro w hSw; (try dsimp only at hSw); go_simp; (first | done | with_reducible rfl)
      try simp only [Act.put, qI, qX, qY]
      refine anyT_takeA (i := 3) (v := ?_) (by simp only [qA, qS, qZ]; rfl) (by kernel_rfl) (by kernel_rfl) (by kernel_rfl) (by kernel_rfl) (fun _ _ _ h => h) (Or.inl ⟨by rfl, ?_⟩) (hS0) (Or.inr trivial) ?_
      rotate_left 1
      ·intro w hSw; (try dsimp only at hSw); go_simp; (first | done | with_reducible rfl)
      try simp only [Act.put, qI, qX, qY]
      refine anyT_takeA (i := 4) (v := ?_) (by simp only [qA, qS, qZ]; rfl) (by kernel_rfl) (by kernel_rfl) (by kernel_rfl) (by kernel_rfl) (fun _ _ _ h => h) (Or.inl ⟨by rfl, ?_⟩) (hS0) (Or.inr trivial) ?_
      rotate_left 1
      ·intro w hSw; (try dsimp only at hSw); go_simp; (first | done | with_reducible rfl)
      try simp only [Act.put, qI, qX, qY]
      refine anyT_takeA (i := 5) (v := ?_) (by simp only [qA, qS, qZ]; rfl) (by kernel_rfl) (by kernel_rfl) (by kernel_rfl) (by kernel_rfl) (fun _ _ _ h => h) (Or.inl ⟨by rfl, ?_⟩) (hS0) (Or.inr trivial) ?_
      rotate_left 1
      ·intro w hSw; (try dsimp only at hSw); go_simp; (first | done | with_reducible rfl)
      try simp only [Act.put, qI, qX, qY]
      refine anyT_takeA (i := 6) (v := ?_) (by simp only [qA, qS, qZ]; rfl) (by kernel_rfl) (by kernel_rfl) (by kernel_rfl) (by kernel_rfl) (fun _ _ _ h => h) (Or.inl ⟨by rfl, ?_⟩) (hS0) (Or.inr trivial) ?_
      rotate_left 1
      ·intro w hSw; (try dsimp only at hSw); go_simp; (first | done | with_reducible rfl)
      try simp only [Act.put, qI, qX, qY]
      refine anyT_takeA (i := 7) (v := ?_) (by simp only [qA, qS, qZ]; rfl) (by kernel_rfl) (by kernel_rfl) (by kernel_rfl) (by kernel_rfl) (fun _ _ _ h => h) (Or.inl ⟨by rfl, ?_⟩) (hS0) (Or.inr trivial) ?_
      rotate_left 1
      ·intro w hSw; (try dsimp only at hSw); go_simp; (first | done | with_reducible rfl)
      try simp only [Act.put, qI, qX, qY]
      refine anyT_takeA (i := 8) (v := ?_) (by simp only [qA, qS, qZ]; rfl) (by kernel_rfl) (by kernel_rfl) (by kernel_rfl) (by kernel_rfl) (fun _ _ _ h => h) (Or.inl ⟨by rfl, ?_⟩) (hS0) (Or.inr trivial) ?_
      rotate_left 1
      ·intro w hSw; (try dsimp only at hSw); go_simp; (first | done | with_reducible rfl)
      try simp only [Act.put, qI, qX, qY]
      refine anyT_takeA (i := 9) (v := ?_) (by simp only [qA, qS, qZ]; rfl) (by kernel_rfl) (by kernel_rfl) (by kernel_rfl) (by kernel_rfl) (fun _ _ _ h => h) (Or.inl ⟨by rfl, ?_⟩) (hS0) (Or.inr trivial) ?_
      rotate_left 1
      ·intro w hSw; (try dsimp only at hSw); go_simp; (first | done | with_reducible rfl)
      try simp only [Act.put, qI, qX, qY]
      refine anyT_takeA (i := 10) (v := ?_) (by simp only [qA, qS, qZ]; rfl) (by kernel_rfl) (by kernel_rfl) (by kernel_rfl) (by kernel_rfl) (fun _ _ _ h => h) (Or.inl ⟨by rfl, ?_⟩) (hS0) (Or.inr trivial) ?_
      rotate_left 1
      ·intro w hSw; (try dsimp only at hSw); go_simp; (first | done | with_reducible rfl)
      try simp only [Act.put, qI, qX, qY]
      refine anyT_takeA (i := 11) (v := ?_) (by simp only [qA, qS, qZ]; rfl) (by kernel_rfl) (by kernel_rfl) (by kernel_rfl) (by kernel_rfl) (fun _ _ _ h => h) (Or.inl ⟨by rfl, ?_⟩) (hS0) (Or.inr trivial) ?_
      rotate_left 1
      ·intro w hSw; (try dsimp only at hSw); go_simp; (first | done | with_reducible rfl)
      try simp only [Act.put, qI, qX, qY]
      refine anyT_takeA (i := 12) (v := ?_) (by simp only [qA, qS, qZ]; rfl) (by kernel_rfl) (by kernel_rfl) (by kernel_rfl) (by kernel_rfl) (fun _ _ _ h => h) (Or.inl ⟨by rfl, ?_⟩) (hS0) (Or.inr trivial) ?_
      rotate_left 1
      ·intro w hSw; (try dsimp only at hSw); go_simp; (first | done | with_reducible rfl)
      try simp only [Act.put, qI, qX, qY]
      refine anyT_takeA (i := 13) (v := ?_) (by simp only [qA, qS, qZ]; rfl) (by kernel_rfl) (by kernel_rfl) (by kernel_rfl) (by kernel_rfl) (fun _ _ _ h => h) (Or.inl ⟨by rfl, ?_⟩) (hS0) (Or.inr trivial) ?_
      rotate_left 1
      ·intro w hSw; (try dsimp only at hSw); go_simp; (first | done | with_reducible rfl)
      try simp only [Act.put, qI, qX, qY]
      refine anyT_takeA (i := 14) (v := ?_) (by simp only [qA, qS, qZ]; rfl) (by kernel_rfl) (by kernel_rfl) (by kernel_rfl) (by kernel_rfl) (fun _ _ _ h => h) (Or.inl ⟨by rfl, ?_⟩) (hS0) (Or.inr trivial) ?_
      rotate_left 1
      ·intro w hSw; (try dsimp only at hSw); go_simp; (first | done | with_reducible rfl)
      try simp only [Act.put, qI, qX, qY]
      refine anyT_takeA (i := 15) (v := ?_) (by simp only [qA, qS, qZ]; rfl) (by kernel_rfl) (by kernel_rfl) (by kernel_rfl) (by kernel_rfl) (fun _ _ _ h => h) (Or.inl ⟨by rfl, ?_⟩) (hS0) (Or.inr trivial) ?_
      rotate_left 1
      ·intro w hSw; (try dsimp only at hSw); go_simp; (first | done | with_reducible rfl)
      try simp only [Act.put, qI, qX, qY]
      refine anyT_takeA (i := 16) (v := ?_) (by simp only [qA, qS, qZ]; rfl) (by kernel_rfl) (by kernel_rfl) (by kernel_rfl) (by kernel_rfl) (fun _ _ _ h => h) (Or.inl ⟨by rfl, ?_⟩) (hS0) (Or.inr trivial) ?_
      rotate_left 1
      ·intro w hSw; (try dsimp only at hSw); go_simp; (first | done | with_reducible rfl)
      try simp only [Act.put, qI, qX, qY]
      refine anyT_ready (rs := [17]) (by kernel_rfl) (by simp) ?_
      refine AllReadyT.cons (by simp only [qA, qS, qZ]; rfl) (fun K hK => ?_) AllReadyT.nil
      go_simp
      refine (HAs.out _ hd).mono ?_
      rintro e w2 ⟨rfl, hb2⟩
      have hx2 := below_from hd hb2
      have hS2 := HSt.out _ hx2
      refine hK.out _ _ hS2 (Or.inl (by rfl)) ?_
      clear hK K
      try simp only [Act.put, qI, qX, qY]
      refine anyT_takeA (i := 18) (v := ?_) (by simp only [qA, qS, qZ]; rfl) (by kernel_rfl) (by kernel_rfl) (by kernel_rfl) (by kernel_rfl) (fun _ _ _ h => h) (Or.inl ⟨by rfl, ?_⟩) (hS2) (Or.inl (by rfl)) ?_
      rotate_left 1
      ·intro w hSw; (try dsimp only at hSw); go_simp; (first | done | with_reducible rfl)
      try simp only [Act.put, qI, qX, qY]
      refine anyT_takeA (i := 19) (v := ?_) (by simp only [qA, qS, qZ]; rfl) (by kernel_rfl) (by kernel_rfl) (by kernel_rfl) (by kernel_rfl) (fun _ _ _ h => h) (Or.inl ⟨by rfl, ?_⟩) (hS2) (Or.inl (by rfl)) ?_
      rotate_left 1
      ·intro w hSw; (try dsimp only at hSw); go_simp; (first | done | with_reducible rfl)
      try simp only [Act.put, qI, qX, qY]
      refine anyT_takeA (i := 20) (v := ?_) (by simp only [qA, qS, qZ]; rfl) (by kernel_rfl) (by kernel_rfl) (by kernel_rfl) (by kernel_rfl) (fun _ _ _ h => h) (Or.inl ⟨by rfl, ?_⟩) (hS2) (Or.inl (by rfl)) ?_
      rotate_left 1
      ·intro w hSw; (try dsimp only at hSw); go_simp; (first | done | with_reducible rfl)
      try simp only [Act.put, qI, qX, qY]
      refine anyT_takeA (i := 21) (v := ?_) (by simp only [qA, qS, qZ]; rfl) (by kernel_rfl) (by kernel_rfl) (by kernel_rfl) (by kernel_rfl) (fun _ _ _ h => h) (Or.inl ⟨by rfl, ?_⟩) (hS2) (Or.inl (by rfl)) ?_
      rotate_left 1
      ·intro w hSw; (try dsimp only at hSw); go_simp; (first | done | with_reducible rfl)
      try simp only [Act.put, qI, qX, qY]
      refine anyT_takeA (i := 22) (v := ?_) (by simp only [qA, qS, qZ]; rfl) (by kernel_rfl) (by kernel_rfl) (by kernel_rfl) (by kernel_rfl) (fun _ _ _ h => h) (Or.inl ⟨by rfl, ?_⟩) (hS2) (Or.inl (by rfl)) ?_
      rotate_left 1
      ·intro w hSw; (try dsimp only at hSw); go_simp; (first | done | with_reducible rfl)
      try simp only [Act.put, qI, qX, qY]
      refine anyT_takeA (i := 23) (v := ?_) (by simp only [qA, qS, qZ]; rfl) (by kernel_rfl) (by kernel_rfl) (by kernel_rfl) (by kernel_rfl) (fun _ _ _ h => h) (Or.inl ⟨by rfl, ?_⟩) (hS2) (Or.inl (by rfl)) ?_
      rotate_left 1
      ·intro w hSw; (try dsimp only at hSw); go_simp; (first | done | with_reducible rfl)
      try simp only [Act.put, qI, qX, qY]
      refine anyT_takeA (i := 24) (v := ?_) (by simp only [qA, qS, qZ]; rfl) (by kernel_rfl) (by kernel_rfl) (by kernel_rfl) (by kernel_rfl) (fun _ _ _ h => h) (Or.inl ⟨by rfl, ?_⟩) (hS2) (Or.inl (by rfl)) ?_
      rotate_left 1
      ·intro w hSw; (try dsimp only at hSw); go_simp; (first | done | with_reducible rfl)
      try simp only [Act.put, qI, qX, qY]
      refine anyT_takeA (i := 25) (v := ?_) (by simp only [qA, qS, qZ]; rfl) (by kernel_rfl) (by kernel_rfl) (by kernel_rfl) (by kernel_rfl) (fun _ _ _ h => h) (Or.inl ⟨by rfl, ?_⟩) (hS2) (Or.inl (by rfl)) ?_
      rotate_left 1
      ·intro w hSw; (try dsimp only at hSw); go_simp; (first | done | with_reducible rfl)
      try simp only [Act.put, qI, qX, qY]
      refine anyT_takeA (i := 26) (v := ?_) (by simp only [qA, qS, qZ]; rfl) (by kernel_rfl) (by kernel_rfl) (by kernel_rfl) (by kernel_rfl) (fun _ _ _ h => h) (Or.inl ⟨by rfl, ?_⟩) (hS2) (Or.inl (by rfl)) ?_
      rotate_left 1
      ·intro w hSw; (try dsimp only at hSw); go_simp; (first | done | with_reducible rfl)
      try simp only [Act.put, qI, qX, qY]
      refine anyT_takeA (i := 27) (v := ?_) (by simp only [qA, qS, qZ]; rfl) (by kernel_rfl) (by kernel_rfl) (by kernel_rfl) (by kernel_rfl) (fun _ _ _ h => h) (Or.inl ⟨by rfl, ?_⟩) (hS2) (Or.inl (by rfl)) ?_
      rotate_left 1
      ·intro w hSw; (try dsimp only at hSw); go_simp; (first | done | with_reducible rfl)
      try simp only [Act.put, qI, qX, qY]
      refine anyT_takeA (i := 28) (v := ?_) (by simp only [qA, qS, qZ]; rfl) (by kernel_rfl) (by kernel_rfl) (by kernel_rfl) (by kernel_rfl) (fun _ _ _ h => h) (Or.inl ⟨by rfl, ?_⟩) (hS2) (Or.inl (by rfl)) ?_
      rotate_left 1
      ·intro w hSw; (try dsimp only at hSw); go_simp; (first | done | with_reducible rfl)
      try simp only [Act.put, qI, qX, qY]
      refine anyT_takeA (i := 29) (v := ?_) (by simp only [qA, qS, qZ]; rfl) (by kernel_rfl) (by kernel_rfl) (by kernel_rfl) (by kernel_rfl) (fun _ _ _ h => h) (Or.inl ⟨by rfl, ?_⟩) (hS2) (Or.inl (by rfl)) ?_
      rotate_left 1
      ·intro w hSw; (try dsimp only at hSw); go_simp; (first | done | with_reducible rfl)
      try simp only [Act.put, qI, qX, qY]
      refine anyT_takeA (i := 30) (v := ?_) (by simp only [qA, qS, qZ]; rfl) (by kernel_rfl) (by kernel_rfl) (by kernel_rfl) (by kernel_rfl) (fun _ _ _ h => h) (Or.inl ⟨by rfl, ?_⟩) (hS2) (Or.inl (by rfl)) ?_
      rotate_left 1
      ·intro w hSw; (try dsimp only at hSw); go_simp; (first | done | with_reducible rfl)
      try simp only [Act.put, qI, qX, qY]
      refine anyT_takeA (i := 31) (v := ?_) (by simp only [qA, qS, qZ]; rfl) (by kernel_rfl) (by kernel_rfl) (by kernel_rfl) (by kernel_rfl) (fun _ _ _ h => h) (Or.inl ⟨by rfl, ?_⟩) (hS2) (Or.inl (by rfl)) ?_
      rotate_left 1
      ·intro w hSw; (try dsimp only at hSw); go_simp; (first | done | with_reducible rfl)
      try simp only [Act.put, qI, qX, qY]
      refine anyT_takeA (i := 32) (v := ?_) (by simp only [qA, qS, qZ]; rfl) (by kernel_rfl) (by kernel_rfl) (by kernel_rfl) (by kernel_rfl) (fun _ _ _ h => h) (Or.inl ⟨by rfl, ?_⟩) (hS2) (Or.inl (by rfl)) ?_
      rotate_left 1
      ·intro w hSw; (try dsimp only at hSw); go_simp; (first | done | with_reducible rfl)
      try simp only [Act.put, qI, qX, qY]
      refine anyT_takeA (i := 33) (v := ?_) (by simp only [qA, qS, qZ]; rfl) (by kernel_rfl) (by kernel_rfl) (by kernel_rfl) (by kernel_rfl) (fun _ _ _ h => h) (Or.inl ⟨by rfl, ?_⟩) (hS2) (Or.inl (by rfl)) ?_
      rotate_left 1
      ·intro w hSw; (try dsimp only at hSw); go_simp; (first | done | with_reducible rfl)
      try simp only [Act.put, qI, qX, qY]
      refine anyT_takeA (i := 34) (v := ?_) (by simp only [qA, qS, qZ]; rfl) (by kernel_rfl) (by kernel_rfl) (by kernel_rfl) (by kernel_rfl) (fun _ _ _ h => h) (Or.inl ⟨by rfl, ?_⟩) (hS2) (Or.inl (by rfl)) ?_
      rotate_left 1
      ·intro w hSw; (try dsimp only at hSw); go_simp; (first | done | with_reducible rfl)
      try simp only [Act.put, qI, qX, qY]
      refine anyT_takeA (i := 35) (v := ?_) (by simp only [qA, qS, qZ]; rfl) (by kernel_rfl) (by kernel_rfl) (by kernel_rfl) (by kernel_rfl) (fun _ _ _ h => h) (Or.inl ⟨by rfl, ?_⟩) (hS2) (Or.inl (by rfl)) ?_
      rotate_left 1
      ·intro w hSw; (try dsimp only at hSw); go_simp; (first | done | with_reducible rfl)
      try simp only [Act.put, qI, qX, qY]
      refine anyT_takeA (i := 36) (v := ?_) (by simp only [qA, qS, qZ]; rfl) (by kernel_rfl) (by kernel_rfl) (by kernel_rfl) (by kernel_rfl) (fun _ _ _ h => h) (Or.inl ⟨by rfl, ?_⟩) (hS2) (Or.inl (by rfl)) ?_
      rotate_left 1
      ·intro w hSw; (try dsimp only at hSw); go_simp; (first | done | with_reducible rfl)
      try simp only [Act.put, qI, qX, qY]
      refine anyT_takeA (i := 37) (v := ?_) (by simp only [qA, qS, qZ]; rfl) (by kernel_rfl) (by kernel_rfl) (by kernel_rfl) (by kernel_rfl) (fun _ _ _ h => h) (Or.inl ⟨by rfl, ?_⟩) (hS2) (Or.inl (by rfl)) ?_
      rotate_left 1
      ·intro w hSw; (try dsimp only at hSw); go_simp; (first | done | with_reducible rfl)
      try simp only [Act.put, qI, qX, qY]
      refine anyT_takeA (i := 38) (v := ?_) (by simp only [qA, qS, qZ]; rfl) (by kernel_rfl) (by kernel_rfl) (by kernel_rfl) (by kernel_rfl) (fun _ _ _ h => h) (Or.inl ⟨by rfl, ?_⟩) (hS2) (Or.inl (by rfl)) ?_
      rotate_left 1
      ·intro w hSw; (try dsimp only at hSw); go_simp; (first | done | with_reducible rfl)
      try simp only [Act.put, qI, qX, qY]
      refine anyT_takeA (i := 39) (v := ?_) (by simp only [qA, qS, qZ]; rfl) (by kernel_rfl) (by kernel_rfl) (by kernel_rfl) (by kernel_rfl) (fun _ _ _ h => h) (Or.inl ⟨by rfl, ?_⟩) (hS2) (Or.inl (by rfl)) ?_
      rotate_left 1
      ·intro w hSw; (try dsimp only at hSw); go_simp; (first | done | with_reducible rfl)
      try simp only [Act.put, qI, qX, qY]
      refine anyT_takeA (i := 40) (v := ?_) (by simp only [qA, qS, qZ]; rfl) (by kernel_rfl) (by kernel_rfl) (by kernel_rfl) (by kernel_rfl) (fun _ _ _ h => h) (Or.inl ⟨by rfl, ?_⟩) (hS2) (Or.inl (by rfl)) ?_
      rotate_left 1
      ·intro w hSw; (try dsimp only at hSw); go_simp; (first | done | with_reducible rfl)
      try simp only [Act.put, qI, qX, qY]
      refine anyT_takeA (i := 41) (v := ?_) (by simp only [qA, qS, qZ]; rfl) (by kernel_rfl) (by kernel_rfl) (by kernel_rfl) (by kernel_rfl) (fun _ _ _ h => h) (Or.inl ⟨by rfl, ?_⟩) (hS2) (Or.inl (by rfl)) ?_
      rotate_left 1
      ·intro w hSw; (try dsimp only at hSw); go_simp; (first | done | with_reducible rfl)
      try simp only [Act.put, qI, qX, qY]
      refine anyT_done (by kernel_rfl) ?_ _
      refine NoPanic.normal ?_
      go_wp2_with fail
      go_meet
      case rel => exact ⟨rfl, hx2⟩
     ·have h1d : decide (i0 < 0) = false := by simpa using h1
      have h2d : decide ((n.kids.length : Int) ≤ i0) = false := by simpa using h2
      have i1d : (0 : Int) ≤ i0 := by omega
      clear h2
      clear h1
      refine wp_region_T (fun X => X.cell? ⟨w.heap.size + 1 + 1, 0, none⟩ = some (.pointer (some ⟨b, 0, none⟩)) ∧ X.cell? ⟨b, 0, none⟩ = some (.slice (some ⟨pb, po, none⟩) (r.length + 1) pc2) ∧ X.cell? ⟨b, 1, none⟩ = some (.int .i64 k) ∧ X.cell? ⟨pb, po, none⟩ = some (.int .i64 i0) ∧ X.cell? ⟨w.heap.size + 1, 0, none⟩ = some (.int .i64 n.tag) ∧ X.cell? ⟨w.heap.size + 1, 1, none⟩ = some (.slice la n.attrs.length lc) ∧ X.cell? ⟨w.heap.size + 1, 2, none⟩ = some (.string ⟨n.text.toArray⟩) ∧ X.cell? ⟨w.heap.size + 1, 3, none⟩ = some (.slice ka n.kids.length kc)) (fun _ => True) 17 (by kernel_rfl) ?_
      refine anyT_takeA (i := 0) (v := ?_) (by simp only [qA, qS, qZ]; rfl) (by kernel_rfl) (by kernel_rfl) (by kernel_rfl) (by kernel_rfl) (fun _ _ _ h => h) (Or.inl ⟨by rfl, ?_⟩) (hS0) (Or.inr trivial) ?_
      rotate_left 1
      ·intro w hSw; (try dsimp only at hSw); go_simp; (first | done | with_reducible rfl)
      try simp only [Act.put, qI, qX, qY]
      refine anyT_takeA (i := 1) (v := ?_) (by simp only [qA, qS, qZ]; rfl) (by kernel_rfl) (by kernel_rfl) (by kernel_rfl) (by kernel_rfl) (fun _ _ _ h => h) (Or.inl ⟨by rfl, ?_⟩) (hS0) (Or.inr trivial) ?_
      rotate_left 1
      ·intro w hSw; (try dsimp only at hSw); go_simp; (first | done | with_reducible rfl)
      try simp only [Act.put, qI, qX, qY]
      refine anyT_takeA (i := 2) (v := ?_) (by simp only [qA, qS, qZ]; rfl) (by kernel_rfl) (by kernel_rfl) (by kernel_rfl) (by kernel_rfl) (fun _ _ _ h => h) (Or.inl ⟨by rfl, ?_⟩) (hS0) (Or.inr trivial) ?_
      rotate_left 1
      ·intro w hSw; (try dsimp only at hSw); go_simp; (first | done | with_reducible rfl)
      try simp only [Act.put, qI, qX, qY]
      refine anyT_takeA (i := 3) (v := ?_) (by simp only [qA, qS, qZ]; rfl) (by kernel_rfl) (by kernel_rfl) (by kernel_rfl) (by kernel_rfl) (fun _ _ _ h => h) (Or.inl ⟨by rfl, ?_⟩) (hS0) (Or.inr trivial) ?_
      rotate_left 1
      ·intro w hSw; (try dsimp only at hSw); go_simp; (first | done | with_reducible rfl)
      try simp only [Act.put, qI, qX, qY]
      refine anyT_takeA (i := 4) (v := ?_) (by simp only [qA, qS, qZ]; rfl) (by kernel_rfl) (by kernel_rfl) (by kernel_rfl) (by kernel_rfl) (fun _ _ _ h => h) (Or.inl ⟨by rfl, ?_⟩) (hS0) (Or.inr trivial) ?_
      rotate_left 1
      ·intro w hSw; (try dsimp only at hSw); go_simp; (first | done | with_reducible rfl)
      try simp only [Act.put, qI, qX, qY]
      refine anyT_takeA (i := 5) (v := ?_) (by simp only [qA, qS, qZ]; rfl) (by kernel_rfl) (by kernel_rfl) (by kernel_rfl) (by kernel_rfl) (fun _ _ _ h => h) (Or.inl ⟨by rfl, ?_⟩) (hS0) (Or.inr trivial) ?_
      rotate_left 1
      ·intro w hSw; (try dsimp only at hSw); go_simp; (first | done | with_reducible rfl)
      try simp only [Act.put, qI, qX, qY]
      refine anyT_takeA (i := 6) (v := ?_) (by simp only [qA, qS, qZ]; rfl) (by kernel_rfl) (by kernel_rfl) (by kernel_rfl) (by kernel_rfl) (fun _ _ _ h => h) (Or.inl ⟨by rfl, ?_⟩) (hS0) (Or.inr trivial) ?_
      rotate_left 1
      ·intro w hSw; (try dsimp only at hSw); go_simp; (first | done | with_reducible rfl)
      try simp only [Act.put, qI, qX, qY]
      refine anyT_takeA (i := 7) (v := ?_) (by simp only [qA, qS, qZ]; rfl) (by kernel_rfl) (by kernel_rfl) (by kernel_rfl) (by kernel_rfl) (fun _ _ _ h => h) (Or.inl ⟨by rfl, ?_⟩) (hS0) (Or.inr trivial) ?_
      rotate_left 1
      ·intro w hSw; (try dsimp only at hSw); go_simp; (first | done | with_reducible rfl)
      try simp only [Act.put, qI, qX, qY]
      refine anyT_takeA (i := 8) (v := ?_) (by simp only [qA, qS, qZ]; rfl) (by kernel_rfl) (by kernel_rfl) (by kernel_rfl) (by kernel_rfl) (fun _ _ _ h => h) (Or.inl ⟨by rfl, ?_⟩) (hS0) (Or.inr trivial) ?_
      rotate_left 1
      ·intro w hSw; (try dsimp only at hSw); go_simp; (first | done | with_reducible rfl)
      try simp only [Act.put, qI, qX, qY]
      refine anyT_takeA (i := 9) (v := ?_) (by simp only [qA, qS, qZ]; rfl) (by kernel_rfl) (by kernel_rfl) (by kernel_rfl) (by kernel_rfl) (fun _ _ _ h => h) (Or.inl ⟨by rfl, ?_⟩) (hS0) (Or.inr trivial) ?_
      rotate_left 1
      ·intro w hSw; (try dsimp only at hSw); go_simp; (first | done | with_reducible rfl)
      try simp only [Act.put, qI, qX, qY]
      refine anyT_takeA (i := 10) (v := ?_) (by simp only [qA, qS, qZ]; rfl) (by kernel_rfl) (by kernel_rfl) (by kernel_rfl) (by kernel_rfl) (fun _ _ _ h => h) (Or.inl ⟨by rfl, ?_⟩) (hS0) (Or.inr trivial) ?_
      rotate_left 1
      ·intro w hSw; (try dsimp only at hSw); go_simp; (first | done | with_reducible rfl)
      try simp only [Act.put, qI, qX, qY]
      refine anyT_takeA (i := 11) (v := ?_) (by simp only [qA, qS, qZ]; rfl) (by kernel_rfl) (by kernel_rfl) (by kernel_rfl) (by kernel_rfl) (fun _ _ _ h => h) (Or.inl ⟨by rfl, ?_⟩) (hS0) (Or.inr trivial) ?_
      rotate_left 1
      ·intro w hSw; (try dsimp only at hSw); go_simp; (first | done | with_reducible rfl)
      try simp only [Act.put, qI, qX, qY]
      refine anyT_takeA (i := 12) (v := ?_) (by simp only [qA, qS, qZ]; rfl) (by kernel_rfl) (by kernel_rfl) (by kernel_rfl) (by kernel_rfl) (fun _ _ _ h => h) (Or.inl ⟨by rfl, ?_⟩) (hS0) (Or.inr trivial) ?_
      rotate_left 1
      ·intro w hSw; (try dsimp only at hSw); go_simp; (first | done | with_reducible rfl)
      try simp only [Act.put, qI, qX, qY]
      refine anyT_takeA (i := 13) (v := ?_) (by simp only [qA, qS, qZ]; rfl) (by kernel_rfl) (by kernel_rfl) (by kernel_rfl) (by kernel_rfl) (fun _ _ _ h => h) (Or.inl ⟨by rfl, ?_⟩) (hS0) (Or.inr trivial) ?_
      rotate_left 1
      ·intro w hSw; (try dsimp only at hSw); go_simp; (first | done | with_reducible rfl)
      try simp only [Act.put, qI, qX, qY]
      refine anyT_takeA (i := 14) (v := ?_) (by simp only [qA, qS, qZ]; rfl) (by kernel_rfl) (by kernel_rfl) (by kernel_rfl) (by kernel_rfl) (fun _ _ _ h => h) (Or.inl ⟨by rfl, ?_⟩) (hS0) (Or.inr trivial) ?_
      rotate_left 1
      ·intro w hSw; (try dsimp only at hSw); go_simp; (first | done | with_reducible rfl)
      try simp only [Act.put, qI, qX, qY]
      refine anyT_takeA (i := 15) (v := ?_) (by simp only [qA, qS, qZ]; rfl) (by kernel_rfl) (by kernel_rfl) (by kernel_rfl) (by kernel_rfl) (fun _ _ _ h => h) (Or.inl ⟨by rfl, ?_⟩) (hS0) (Or.inr trivial) ?_
      rotate_left 1
      ·intro w hSw; (try dsimp only at hSw); go_simp; (first | done | with_reducible rfl)
      try simp only [Act.put, qI, qX, qY]
      refine anyT_takeA (i := 16) (v := ?_) (by simp only [qA, qS, qZ]; rfl) (by kernel_rfl) (by kernel_rfl) (by kernel_rfl) (by kernel_rfl) (fun _ _ _ h => h) (Or.inl ⟨by rfl, ?_⟩) (hS0) (Or.inr trivial) ?_
      rotate_left 1
      ·intro w hSw; (try dsimp only at hSw); go_simp; (first | done | with_reducible rfl)
      try simp only [Act.put, qI, qX, qY]
      refine anyT_ready (rs := [17]) (by kernel_rfl) (by simp) ?_
      refine AllReadyT.cons (by simp only [qA, qS, qZ]; rfl) (fun K hK => ?_) AllReadyT.nil
      go_simp
      refine (HAs.out _ hd).mono ?_
      rintro e w2 ⟨rfl, hb2⟩
      have hx2 := below_from hd hb2
      have hS2 := HSt.out _ hx2
      refine hK.out _ _ hS2 (Or.inl (by rfl)) ?_
      clear hK K
      try simp only [Act.put, qI, qX, qY]
      refine anyT_takeA (i := 18) (v := ?_) (by simp only [qA, qS, qZ]; rfl) (by kernel_rfl) (by kernel_rfl) (by kernel_rfl) (by kernel_rfl) (fun _ _ _ h => h) (Or.inl ⟨by rfl, ?_⟩) (hS2) (Or.inl (by rfl)) ?_
      rotate_left 1
      ·intro w hSw; (try dsimp only at hSw); go_simp; (first | done | with_reducible rfl)
      try simp only [Act.put, qI, qX, qY]
      refine anyT_takeA (i := 19) (v := ?_) (by simp only [qA, qS, qZ]; rfl) (by kernel_rfl) (by kernel_rfl) (by kernel_rfl) (by kernel_rfl) (fun _ _ _ h => h) (Or.inl ⟨by rfl, ?_⟩) (hS2) (Or.inl (by rfl)) ?_
      rotate_left 1
      ·intro w hSw; (try dsimp only at hSw); go_simp; (first | done | with_reducible rfl)
      try simp only [Act.put, qI, qX, qY]
      refine anyT_takeA (i := 20) (v := ?_) (by simp only [qA, qS, qZ]; rfl) (by kernel_rfl) (by kernel_rfl) (by kernel_rfl) (by kernel_rfl) (fun _ _ _ h => h) (Or.inl ⟨by rfl, ?_⟩) (hS2) (Or.inl (by rfl)) ?_
      rotate_left 1
      ·intro w hSw; (try dsimp only at hSw); go_simp; (first | done | with_reducible rfl)
      try simp only [Act.put, qI, qX, qY]
      refine anyT_takeA (i := 21) (v := ?_) (by simp only [qA, qS, qZ]; rfl) (by kernel_rfl) (by kernel_rfl) (by kernel_rfl) (by kernel_rfl) (fun _ _ _ h => h) (Or.inl ⟨by rfl, ?_⟩) (hS2) (Or.inl (by rfl)) ?_
      rotate_left 1
      ·intro w hSw; (try dsimp only at hSw); go_simp; (first | done | with_reducible rfl)
      try simp only [Act.put, qI, qX, qY]
      refine anyT_takeA (i := 22) (v := ?_) (by simp only [qA, qS, qZ]; rfl) (by kernel_rfl) (by kernel_rfl) (by kernel_rfl) (by kernel_rfl) (fun _ _ _ h => h) (Or.inl ⟨by rfl, ?_⟩) (hS2) (Or.inl (by rfl)) ?_
      rotate_left 1
      ·intro w hSw; (try dsimp only at hSw); go_simp; (first | done | with_reducible rfl)
      try simp only [Act.put, qI, qX, qY]
      refine anyT_takeA (i := 23) (v := ?_) (by simp only [qA, qS, qZ]; rfl) (by kernel_rfl) (by kernel_rfl) (by kernel_rfl) (by kernel_rfl) (fun _ _ _ h => h) (Or.inl ⟨by rfl, ?_⟩) (hS2) (Or.inl (by rfl)) ?_
      rotate_left 1
      ·intro w hSw; (try dsimp only at hSw); go_simp; (first | done | with_reducible rfl)
      try simp only [Act.put, qI, qX, qY]
      refine anyT_takeA (i := 24) (v := ?_) (by simp only [qA, qS, qZ]; rfl) (by kernel_rfl) (by kernel_rfl) (by kernel_rfl) (by kernel_rfl) (fun _ _ _ h => h) (Or.inl ⟨by rfl, ?_⟩) (hS2) (Or.inl (by rfl)) ?_
      rotate_left 1
      ·intro w hSw; (try dsimp only at hSw); go_simp; (first | done | with_reducible rfl)
      try simp only [Act.put, qI, qX, qY]
      refine anyT_takeA (i := 25) (v := ?_) (by simp only [qA, qS, qZ]; rfl) (by kernel_rfl) (by kernel_rfl) (by kernel_rfl) (by kernel_rfl) (fun _ _ _ h => h) (Or.inl ⟨by rfl, ?_⟩) (hS2) (Or.inl (by rfl)) ?_
      rotate_left 1
      ·intro w hSw; (try dsimp only at hSw); go_simp; (first | done | with_reducible rfl)
      try simp only [Act.put, qI, qX, qY]
      refine anyT_takeA (i := 26) (v := ?_) (by simp only [qA, qS, qZ]; rfl) (by kernel_rfl) (by kernel_rfl) (by kernel_rfl) (by kernel_rfl) (fun _ _ _ h => h) (Or.inl ⟨by rfl, ?_⟩) (hS2) (Or.inl (by rfl)) ?_
      rotate_left 1
      ·intro w hSw; (try dsimp only at hSw); go_simp; (first | done | with_reducible rfl)
      try simp only [Act.put, qI, qX, qY]
      refine anyT_takeA (i := 27) (v := ?_) (by simp only [qA, qS, qZ]; rfl) (by kernel_rfl) (by kernel_rfl) (by kernel_rfl) (by kernel_rfl) (fun _ _ _ h => h) (Or.inl ⟨by rfl, ?_⟩) (hS2) (Or.inl (by rfl)) ?_
      rotate_left 1
      ·intro w hSw; (try dsimp only at hSw); go_simp; (first | done | with_reducible rfl)
      try simp only [Act.put, qI, qX, qY]
      refine anyT_takeA (i := 28) (v := ?_) (by simp only [qA, qS, qZ]; rfl) (by kernel_rfl) (by kernel_rfl) (by kernel_rfl) (by kernel_rfl) (fun _ _ _ h => h) (Or.inl ⟨by rfl, ?_⟩) (hS2) (Or.inl (by rfl)) ?_
      rotate_left 1
      ·intro w hSw; (try dsimp only at hSw); go_simp; (first | done | with_reducible rfl)
      try simp only [Act.put, qI, qX, qY]
      refine anyT_takeA (i := 29) (v := ?_) (by simp only [qA, qS, qZ]; rfl) (by kernel_rfl) (by kernel_rfl) (by kernel_rfl) (by kernel_rfl) (fun _ _ _ h => h) (Or.inl ⟨by rfl, ?_⟩) (hS2) (Or.inl (by rfl)) ?_
      rotate_left 1
      ·intro w hSw; (try dsimp only at hSw); go_simp; (first | done | with_reducible rfl)
      try simp only [Act.put, qI, qX, qY]
      refine anyT_takeA (i := 30) (v := ?_) (by simp only [qA, qS, qZ]; rfl) (by kernel_rfl) (by kernel_rfl) (by kernel_rfl) (by kernel_rfl) (fun _ _ _ h => h) (Or.inl ⟨by rfl, ?_⟩) (hS2) (Or.inl (by rfl)) ?_
      rotate_left 1
      ·intro w hSw; (try dsimp only at hSw); go_simp; (first | done | with_reducible rfl)
      try simp only [Act.put, qI, qX, qY]
      refine anyT_takeA (i := 31) (v := ?_) (by simp only [qA, qS, qZ]; rfl) (by kernel_rfl) (by kernel_rfl) (by kernel_rfl) (by kernel_rfl) (fun _ _ _ h => h) (Or.inl ⟨by rfl, ?_⟩) (hS2) (Or.inl (by rfl)) ?_
      rotate_left 1
      ·intro w hSw; (try dsimp only at hSw); go_simp; (first | done | with_reducible rfl)
      try simp only [Act.put, qI, qX, qY]
      refine anyT_takeA (i := 32) (v := ?_) (by simp only [qA, qS, qZ]; rfl) (by kernel_rfl) (by kernel_rfl) (by kernel_rfl) (by kernel_rfl) (fun _ _ _ h => h) (Or.inl ⟨by rfl, ?_⟩) (hS2) (Or.inl (by rfl)) ?_
      rotate_left 1
      ·intro w hSw; (try dsimp only at hSw); go_simp; (first | done | with_reducible rfl)
      try simp only [Act.put, qI, qX, qY]
      refine anyT_takeA (i := 33) (v := ?_) (by simp only [qA, qS, qZ]; rfl) (by kernel_rfl) (by kernel_rfl) (by kernel_rfl) (by kernel_rfl) (fun _ _ _ h => h) (Or.inl ⟨by rfl, ?_⟩) (hS2) (Or.inl (by rfl)) ?_
      rotate_left 1
      ·intro w hSw; (try dsimp only at hSw); go_simp; (first | done | with_reducible rfl)
      try simp only [Act.put, qI, qX, qY]
      refine anyT_takeA (i := 34) (v := ?_) (by simp only [qA, qS, qZ]; rfl) (by kernel_rfl) (by kernel_rfl) (by kernel_rfl) (by kernel_rfl) (fun _ _ _ h => h) (Or.inl ⟨by rfl, ?_⟩) (hS2) (Or.inl (by rfl)) ?_
      rotate_left 1
      ·intro w hSw; (try dsimp only at hSw); go_simp; (first | done | with_reducible rfl)
      try simp only [Act.put, qI, qX, qY]
      refine anyT_takeA (i := 35) (v := ?_) (by simp only [qA, qS, qZ]; rfl) (by kernel_rfl) (by kernel_rfl) (by kernel_rfl) (by kernel_rfl) (fun _ _ _ h => h) (Or.inl ⟨by rfl, ?_⟩) (hS2) (Or.inl (by rfl)) ?_
      rotate_left 1
      ·intro w hSw; (try dsimp only at hSw); go_simp; (first | done | with_reducible rfl)
      try simp only [Act.put, qI, qX, qY]
      refine anyT_takeA (i := 36) (v := ?_) (by simp only [qA, qS, qZ]; rfl) (by kernel_rfl) (by kernel_rfl) (by kernel_rfl) (by kernel_rfl) (fun _ _ _ h => h) (Or.inl ⟨by rfl, ?_⟩) (hS2) (Or.inl (by rfl)) ?_
      rotate_left 1
      ·intro w hSw; (try dsimp only at hSw); go_simp; (first | done | with_reducible rfl)
      try simp only [Act.put, qI, qX, qY]
      refine anyT_takeA (i := 37) (v := ?_) (by simp only [qA, qS, qZ]; rfl) (by kernel_rfl) (by kernel_rfl) (by kernel_rfl) (by kernel_rfl) (fun _ _ _ h => h) (Or.inl ⟨by rfl, ?_⟩) (hS2) (Or.inl (by rfl)) ?_
      rotate_left 1
      ·intro w hSw; (try dsimp only at hSw); go_simp; (first | done | with_reducible rfl)
      try simp only [Act.put, qI, qX, qY]
      refine anyT_takeA (i := 38) (v := ?_) (by simp only [qA, qS, qZ]; rfl) (by kernel_rfl) (by kernel_rfl) (by kernel_rfl) (by kernel_rfl) (fun _ _ _ h => h) (Or.inl ⟨by rfl, ?_⟩) (hS2) (Or.inl (by rfl)) ?_
      rotate_left 1
      ·intro w hSw; (try dsimp only at hSw); go_simp; (first | done | with_reducible rfl)
      try simp only [Act.put, qI, qX, qY]
      refine anyT_takeA (i := 39) (v := ?_) (by simp only [qA, qS, qZ]; rfl) (by kernel_rfl) (by kernel_rfl) (by kernel_rfl) (by kernel_rfl) (fun _ _ _ h => h) (Or.inl ⟨by rfl, ?_⟩) (hS2) (Or.inl (by rfl)) ?_
      rotate_left 1
      ·intro w hSw; (try dsimp only at hSw); go_simp; (first | done | with_reducible rfl)
      try simp only [Act.put, qI, qX, qY]
      refine anyT_takeA (i := 40) (v := ?_) (by simp only [qA, qS, qZ]; rfl) (by kernel_rfl) (by kernel_rfl) (by kernel_rfl) (by kernel_rfl) (fun _ _ _ h => h) (Or.inl ⟨by rfl, ?_⟩) (hS2) (Or.inl (by rfl)) ?_
      rotate_left 1
      ·intro w hSw; (try dsimp only at hSw); go_simp; (first | done | with_reducible rfl)
      try simp only [Act.put, qI, qX, qY]
      refine anyT_takeA (i := 41) (v := ?_) (by simp only [qA, qS, qZ]; rfl) (by kernel_rfl) (by kernel_rfl) (by kernel_rfl) (by kernel_rfl) (fun _ _ _ h => h) (Or.inl ⟨by rfl, ?_⟩) (hS2) (Or.inl (by rfl)) ?_
      rotate_left 1
      ·intro w hSw; (try dsimp only at hSw); go_simp; (first | done | with_reducible rfl)
      try simp only [Act.put, qI, qX, qY]
      refine anyT_done (by kernel_rfl) ?_ _
      refine NoPanic.normal ?_
      go_wp2_with fail
      go_meet
      case rel => exact ⟨rfl, hx2⟩
 case rest =>
 obtain ⟨rfl, hb1⟩ := hcut
 have hbw1 : Below w.heap.size w wc := HB.out.trans (hb1.mono HB.out.size)
 have hzc : w.heap.size + 1 + 1 < wc.heap.size := Nat.lt_of_lt_of_le hz5 hb1.size
 have z3 := heap_below hb1 HZ.out.1
 have z4 := heap_below hb1 HZ.out.2.1
 have z5 := heap_below hb1 HZ.out.2.2
 have hPc := HP.out.keep (KeepT.of hb1)
 have HAs2 : Hid (∀ X, Calls Tryz.prog 46 #[.agg #[.int .i64 n.tag, .slice la n.attrs.length lc, .string ⟨n.text.toArray⟩, .slice ka n.kids.length kc]] X fun e w' => e = .returned (.bool (asideT n.tag)) ∧ Below X.heap.size X w') := Lib.hid fun X => aside_any n _ _ X w0 S h HAK.out.1 HAK.out.2
 go_upto_if 49 with fail
 go_cut [6] from 50 to 79 (fun _ wx => ∃ pa', wx.heap[w.heap.size + 1 + 1]? = some (.cells #[.pointer pa'] 87) ∧ wx.heap[w.heap.size + 1]? = some (.cells #[.int .i64 n.tag, .slice la n.attrs.length lc, .string ⟨n.text.toArray⟩, .slice ka n.kids.length kc] 25) ∧ wx.heap[w.heap.size]? = some (.cells #[.pointer (some ⟨B, 0, none⟩)] 68) ∧ PlcR B w0 wx S' (.pointer pa') (normP n.tag n.kids.length p) ∧ Below w.heap.size w wx)
 case first => as_aux_lemma =>
  cases bad
  ·go_wp2_with fail
   go_meet
   case rel => exact ⟨_, z5, z4, z3, by rw [norm_good HBd.out]; exact hPc, hbw1⟩
  ·rcases hPc with ⟨rfl, hpa⟩ | ⟨path, k, b, v, rfl, hpa, h3, h4, h5⟩
   ·exact absurd HBd.out (by unfold badP; simp)
   cases hpa
   have hbne : b ≠ w.heap.size + 1 + 1 := fun e => by subst e; rw [z5] at h4; cases h4
   obtain ⟨p5, f5⟩ := blk z5
   obtain ⟨p6, f6⟩ := blk h4
   have hq0 : w.heap.size + 1 + 1 ≠ wc.heap.size := by omega
   have hq1 : w.heap.size + 1 ≠ wc.heap.size := by omega
   have hqw : w.heap.size ≠ wc.heap.size := by omega
   have hqB : wc.heap.size ≠ B := by omega
   have he4 : w.heap.size + 1 ≠ w.heap.size + 1 + 1 := by omega
   have he3 : w.heap.size ≠ w.heap.size + 1 + 1 := by omega
   have hl1 : w.heap.size ≤ w.heap.size + 1 + 1 := by omega
   have hl2 : w.heap.size ≤ wc.heap.size := by omega
   cases path with
   | nil =>
    have hk0 : k < 0 := by have := HBd.out; unfold badP at this; simpa using this
    have hN : normP n.tag n.kids.length (some ([], k)) = some ([], 0) := by unfold normP; simp [hk0]
    obtain ⟨pa2, pc2, rfl⟩ := h5.slice
    go_upto_region 4 with fail
    obtain ⟨V, hVe⟩ : ∃ V, wc.alloc (.cells #[.slice pa2 0 pc2, .int .i64 0] 44) = V := ⟨_, rfl⟩
    rw [hVe]
    have hbV : Below wc.heap.size wc V := hVe ▸ (Below.refl _ _).alloc (Nat.le_refl _) _
    have hqV : V.heap[wc.heap.size]? = some (.cells #[.slice pa2 0 pc2, .int .i64 0] 44) := hVe ▸ heap_new _ _ rfl
    clear hVe p5 f5 p6 f6
    obtain ⟨q7, g7⟩ := blk hqV
    go_quiet (fail)
    obtain ⟨V2, hV2⟩ : ∃ V2, V.drewN nq = V2 := ⟨_, rfl⟩
    have hb2 : Below V.heap.size V V2 := hV2 ▸ drewN_below (Below.refl _ _)
    rw [hV2]
    clear hV2 q7 g7
    have hbx := below_from hbV hb2
    obtain ⟨r5, t5⟩ := blk (heap_below hbx z5)
    go_wp2_with fail
    go_meet
    case rel => exact ⟨_, setCell_heap (heap_below hbx z5) _, (Below.heap_setCell V2 ⟨w.heap.size + 1 + 1, 0, none⟩ _ _ he4).trans (heap_below hbx z4), (Below.heap_setCell V2 ⟨w.heap.size + 1 + 1, 0, none⟩ _ _ he3).trans (heap_below hbx z3), by rw [hN]; exact .inr ⟨[], 0, wc.heap.size, _, rfl, rfl, hqB, (Below.heap_setCell V2 ⟨w.heap.size + 1 + 1, 0, none⟩ _ _ (Ne.symm hq0)).trans (heap_below hb2 hqV), h5⟩, (hbw1.trans (hbx.mono hbw1.size)).setCell hl1 _⟩
   | cons i0 r =>
    obtain ⟨pa2, pc2, rfl⟩ := h5.slice
    obtain ⟨hpl1, hpl2⟩ : r.length + 1 ≤ pc2 ∧ pc2 ≤ maxLen := ⟨(SliceR.len h5).2.1, (SliceR.len h5).2.2⟩
    obtain ⟨a2, c2, e2, _, _, hx2⟩ := ints_shape h5
    cases e2
    obtain ⟨pb, po, rfl, hzp, hcp⟩ := hx2 0 i0 rfl
    have hx0c : Below w0.heap.size w0 wc := HW.out.2.1.trans (hbw1.mono HW.out.2.1.size)
    have hcp1 : wc.cell? ⟨pb, po, none⟩ = some (.int .i64 i0) := (hx0c.cell hzp).trans hcp
    have hzp1 : pb < wc.heap.size := Nat.lt_of_lt_of_le hzp hx0c.size
    have hlp : (0 : Int) < (r.length : Int) + 1 := by omega
    unfold maxLen at hpl2
    have hbd : (decide (k < 0) || (asideT n.tag || decide (i0 < 0) || decide ((n.kids.length : Int) ≤ i0))) = true := HBd.out
    have HN : Hid (normP n.tag n.kids.length (some (i0 :: r, k)) = if (asideT n.tag || decide (i0 < 0) || decide ((n.kids.length : Int) ≤ i0)) = true then some ([], 0) else if k < 0 then some (i0 :: r, 0) else some (i0 :: r, k)) := Lib.hid (by unfold normP; simp [or_assoc])
    clear hx2 hx0c hcp
    go_upto_region 4 with fail
    obtain ⟨V, hVe⟩ : ∃ V, wc.alloc (.cells #[.slice (some ⟨pb, po, none⟩) (r.length + 1) pc2, .int .i64 0] 44) = V := ⟨_, rfl⟩
    rw [hVe]
    have hbV : Below wc.heap.size wc V := hVe ▸ (Below.refl _ _).alloc (Nat.le_refl _) _
    have hqV : V.heap[wc.heap.size]? = some (.cells #[.slice (some ⟨pb, po, none⟩) (r.length + 1) pc2, .int .i64 0] 44) := hVe ▸ heap_new _ _ rfl
    clear hVe p5 f5 p6 f6
    have HSt : Hid (∀ X, Below V.heap.size V X → X.cell? ⟨wc.heap.size, 0, none⟩ = some (.slice (some ⟨pb, po, none⟩) (r.length + 1) pc2) ∧ X.cell? ⟨pb, po, none⟩ = some (.int .i64 i0) ∧ X.cell? ⟨w.heap.size + 1, 0, none⟩ = some (.int .i64 n.tag) ∧ X.cell? ⟨w.heap.size + 1, 1, none⟩ = some (.slice la n.attrs.length lc) ∧ X.cell? ⟨w.heap.size + 1, 2, none⟩ = some (.string ⟨n.text.toArray⟩) ∧ X.cell? ⟨w.heap.size + 1, 3, none⟩ = some (.slice ka n.kids.length kc)) := Lib.hid fun X hX => by
     have g6 := heap_below hX hqV
     have g4 := heap_below (below_from hbV hX) z4
     exact ⟨by rw [(blk g6).1 0]; rfl, ((below_from hbV hX).cell hzp1).trans hcp1, by rw [(blk g4).1 0]; rfl, by rw [(blk g4).1 1]; rfl, by rw [(blk g4).1 2]; rfl, by rw [(blk g4).1 3]; rfl⟩
    generalize asideT n.tag = sd at *
    have hd : Below V.heap.size V V.drew := (Below.refl _ _).drew
    have hS0 := HSt.out _ hd
    have hcs : (sd = true) ∨ (sd = false ∧ i0 < 0) ∨ (sd = false ∧ ¬ i0 < 0 ∧ (n.kids.length : Int) ≤ i0) ∨ (sd = false ∧ ¬ i0 < 0 ∧ ¬ (n.kids.length : Int) ≤ i0) := by
     cases sd
     ·by_cases h1 : i0 < 0
      ·exact .inr (.inl ⟨rfl, h1⟩)
      ·by_cases h2 : (n.kids.length : Int) ≤ i0
       ·exact .inr (.inr (.inl ⟨rfl, h1, h2⟩))
       ·exact .inr (.inr (.inr ⟨rfl, h1, h2⟩))
     ·exact .inl rfl
    have HZ4 := Lib.hid (And.intro z3 z4)
    have HH5 := Lib.hid h5
    have HBD := Lib.hid hbd
    clear h3 h4 h5 hbd z3 z4 hcp1
    rcases hcs with rfl | ⟨rfl, h1⟩ | ⟨rfl, h1, h2⟩ | ⟨rfl, h1, h2⟩
    ·replace HN : Hid (normP n.tag n.kids.length (some (i0 :: r, k)) = some ([], 0)) := Lib.hid (by rw [HN.out]; simp)
     refine wp_region_T (fun X => X.cell? ⟨wc.heap.size, 0, none⟩ = some (.slice (some ⟨pb, po, none⟩) (r.length + 1) pc2) ∧ X.cell? ⟨pb, po, none⟩ = some (.int .i64 i0) ∧ X.cell? ⟨w.heap.size + 1, 0, none⟩ = some (.int .i64 n.tag) ∧ X.cell? ⟨w.heap.size + 1, 1, none⟩ = some (.slice la n.attrs.length lc) ∧ X.cell? ⟨w.heap.size + 1, 2, none⟩ = some (.string ⟨n.text.toArray⟩) ∧ X.cell? ⟨w.heap.size + 1, 3, none⟩ = some (.slice ka n.kids.length kc)) (fun _ => True) 6 (by kernel_rfl) ?_
     refine anyT_takeA (i := 0) (v := ?_) (by simp only [qA, qS, qZ]; rfl) (by kernel_rfl) (by kernel_rfl) (by kernel_rfl) (by kernel_rfl) (fun _ _ _ h => h) (Or.inl ⟨by rfl, ?_⟩) (hS0) (Or.inr trivial) ?_
     rotate_left 1
     ·intro w hSw; (try dsimp only at hSw); go_simp; (first | done | with_reducible rfl)
     try simp only [Act.put, qI, qX, qY]
     refine anyT_takeA (i := 1) (v := ?_) (by simp only [qA, qS, qZ]; rfl) (by kernel_rfl) (by kernel_rfl) (by kernel_rfl) (by kernel_rfl) (fun _ _ _ h => h) (Or.inl ⟨by rfl, ?_⟩) (hS0) (Or.inr trivial) ?_
     rotate_left 1
     ·intro w hSw; (try dsimp only at hSw); go_simp; (first | done | with_reducible rfl)
     try simp only [Act.put, qI, qX, qY]
     refine anyT_takeA (i := 2) (v := ?_) (by simp only [qA, qS, qZ]; rfl) (by kernel_rfl) (by kernel_rfl) (by kernel_rfl) (by kernel_rfl) (fun _ _ _ h => h) (Or.inl ⟨by rfl, ?_⟩) (hS0) (Or.inr trivial) ?_
     rotate_left 1
     ·intro w hSw; (try dsimp only at hSw); go_simp; (first | done | with_reducible rfl)
     try simp only [Act.put, qI, qX, qY]
     refine anyT_takeA (i := 3) (v := ?_) (by simp only [qA, qS, qZ]; rfl) (by kernel_rfl) (by kernel_rfl) (by kernel_rfl) (by kernel_rfl) (fun _ _ _ h => h) (Or.inl ⟨by rfl, ?_⟩) (hS0) (Or.inr trivial) ?_
     rotate_left 1
     ·intro w hSw; (try dsimp only at hSw); go_simp; (first | done | with_reducible rfl)
     try simp only [Act.put, qI, qX, qY]
     refine anyT_takeA (i := 4) (v := ?_) (by simp only [qA, qS, qZ]; rfl) (by kernel_rfl) (by kernel_rfl) (by kernel_rfl) (by kernel_rfl) (fun _ _ _ h => h) (Or.inl ⟨by rfl, ?_⟩) (hS0) (Or.inr trivial) ?_
     rotate_left 1
     ·intro w hSw; (try dsimp only at hSw); go_simp; (first | done | with_reducible rfl)
     try simp only [Act.put, qI, qX, qY]
     refine anyT_takeA (i := 5) (v := ?_) (by simp only [qA, qS, qZ]; rfl) (by kernel_rfl) (by kernel_rfl) (by kernel_rfl) (by kernel_rfl) (fun _ _ _ h => h) (Or.inl ⟨by rfl, ?_⟩) (hS0) (Or.inr trivial) ?_
     rotate_left 1
     ·intro w hSw; (try dsimp only at hSw); go_simp; (first | done | with_reducible rfl)
     try simp only [Act.put, qI, qX, qY]
     refine anyT_ready (rs := [6]) (by kernel_rfl) (by simp) ?_
     refine AllReadyT.cons (by simp only [qA, qS, qZ]; rfl) (fun K hK => ?_) AllReadyT.nil
     go_simp
     refine (HAs2.out _).mono ?_
     rintro e w2 ⟨rfl, hb2⟩
     have hx2 := below_from hd hb2
     have hS2 := HSt.out _ hx2
     refine hK.out _ _ hS2 (Or.inl (by rfl)) ?_
     clear hK K
     try simp only [Act.put, qI, qX, qY]
     refine anyT_takeA (i := 7) (v := ?_) (by simp only [qA, qS, qZ]; rfl) (by kernel_rfl) (by kernel_rfl) (by kernel_rfl) (by kernel_rfl) (fun _ _ _ h => h) (Or.inl ⟨by rfl, ?_⟩) (hS2) (Or.inl (by rfl)) ?_
     rotate_left 1
     ·intro w hSw; (try dsimp only at hSw); go_simp; (first | done | with_reducible rfl)
     try simp only [Act.put, qI, qX, qY]
     refine anyT_takeA (i := 8) (v := undef) (by simp only [qA, qS, qZ]; rfl) (by kernel_rfl) (by kernel_rfl) (by kernel_rfl) (by kernel_rfl) (fun _ _ _ h => h) (Or.inr ⟨by rfl, rfl⟩) (hS2) (Or.inl (by rfl)) ?_
     try simp only [Act.put, qI, qX, qY]
     refine anyT_takeA (i := 9) (v := undef) (by simp only [qA, qS, qZ]; rfl) (by kernel_rfl) (by kernel_rfl) (by kernel_rfl) (by kernel_rfl) (fun _ _ _ h => h) (Or.inr ⟨by rfl, rfl⟩) (hS2) (Or.inl (by rfl)) ?_
     try simp only [Act.put, qI, qX, qY]
     refine anyT_takeA (i := 10) (v := undef) (by simp only [qA, qS, qZ]; rfl) (by kernel_rfl) (by kernel_rfl) (by kernel_rfl) (by kernel_rfl) (fun _ _ _ h => h) (Or.inr ⟨by rfl, rfl⟩) (hS2) (Or.inl (by rfl)) ?_
     try simp only [Act.put, qI, qX, qY]
     refine anyT_takeA (i := 11) (v := undef) (by simp only [qA, qS, qZ]; rfl) (by kernel_rfl) (by kernel_rfl) (by kernel_rfl) (by kernel_rfl) (fun _ _ _ h => h) (Or.inr ⟨by rfl, rfl⟩) (hS2) (Or.inl (by rfl)) ?_
     try simp only [Act.put, qI, qX, qY]
     refine anyT_takeA (i := 12) (v := undef) (by simp only [qA, qS, qZ]; rfl) (by kernel_rfl) (by kernel_rfl) (by kernel_rfl) (by kernel_rfl) (fun _ _ _ h => h) (Or.inr ⟨by rfl, rfl⟩) (hS2) (Or.inl (by rfl)) ?_
     try simp only [Act.put, qI, qX, qY]
     refine anyT_takeA (i := 13) (v := ?_) (by simp only [qA, qS, qZ]; rfl) (by kernel_rfl) (by kernel_rfl) (by kernel_rfl) (by kernel_rfl) (fun _ _ _ h => h) (Or.inl ⟨by rfl, ?_⟩) (hS2) (Or.inl (by rfl)) ?_
     rotate_left 1
     ·intro w hSw; (try dsimp only at hSw); go_simp; (first | done | with_reducible rfl)
     try simp only [Act.put, qI, qX, qY]
     refine anyT_takeA (i := 14) (v := ?_) (by simp only [qA, qS, qZ]; rfl) (by kernel_rfl) (by kernel_rfl) (by kernel_rfl) (by kernel_rfl) (fun _ _ _ h => h) (Or.inl ⟨by rfl, ?_⟩) (hS2) (Or.inl (by rfl)) ?_
     rotate_left 1
     ·intro w hSw; (try dsimp only at hSw); go_simp; (first | done | with_reducible rfl)
     try simp only [Act.put, qI, qX, qY]
     refine anyT_takeA (i := 15) (v := undef) (by simp only [qA, qS, qZ]; rfl) (by kernel_rfl) (by kernel_rfl) (by kernel_rfl) (by kernel_rfl) (fun _ _ _ h => h) (Or.inr ⟨by rfl, rfl⟩) (hS2) (Or.inl (by rfl)) ?_
     try simp only [Act.put, qI, qX, qY]
     refine anyT_takeA (i := 16) (v := undef) (by simp only [qA, qS, qZ]; rfl) (by kernel_rfl) (by kernel_rfl) (by kernel_rfl) (by kernel_rfl) (fun _ _ _ h => h) (Or.inr ⟨by rfl, rfl⟩) (hS2) (Or.inl (by rfl)) ?_
     try simp only [Act.put, qI, qX, qY]
     refine anyT_takeA (i := 17) (v := undef) (by simp only [qA, qS, qZ]; rfl) (by kernel_rfl) (by kernel_rfl) (by kernel_rfl) (by kernel_rfl) (fun _ _ _ h => h) (Or.inr ⟨by rfl, rfl⟩) (hS2) (Or.inl (by rfl)) ?_
     try simp only [Act.put, qI, qX, qY]
     refine anyT_takeA (i := 18) (v := undef) (by simp only [qA, qS, qZ]; rfl) (by kernel_rfl) (by kernel_rfl) (by kernel_rfl) (by kernel_rfl) (fun _ _ _ h => h) (Or.inr ⟨by rfl, rfl⟩) (hS2) (Or.inl (by rfl)) ?_
     try simp only [Act.put, qI, qX, qY]
     refine anyT_takeA (i := 19) (v := undef) (by simp only [qA, qS, qZ]; rfl) (by kernel_rfl) (by kernel_rfl) (by kernel_rfl) (by kernel_rfl) (fun _ _ _ h => h) (Or.inr ⟨by rfl, rfl⟩) (hS2) (Or.inl (by rfl)) ?_
     try simp only [Act.put, qI, qX, qY]
     refine anyT_takeA (i := 20) (v := undef) (by simp only [qA, qS, qZ]; rfl) (by kernel_rfl) (by kernel_rfl) (by kernel_rfl) (by kernel_rfl) (fun _ _ _ h => h) (Or.inr ⟨by rfl, rfl⟩) (hS2) (Or.inl (by rfl)) ?_
     try simp only [Act.put, qI, qX, qY]
     refine anyT_takeA (i := 21) (v := undef) (by simp only [qA, qS, qZ]; rfl) (by kernel_rfl) (by kernel_rfl) (by kernel_rfl) (by kernel_rfl) (fun _ _ _ h => h) (Or.inr ⟨by rfl, rfl⟩) (hS2) (Or.inl (by rfl)) ?_
     try simp only [Act.put, qI, qX, qY]
     refine anyT_takeA (i := 22) (v := undef) (by simp only [qA, qS, qZ]; rfl) (by kernel_rfl) (by kernel_rfl) (by kernel_rfl) (by kernel_rfl) (fun _ _ _ h => h) (Or.inr ⟨by rfl, rfl⟩) (hS2) (Or.inl (by rfl)) ?_
     try simp only [Act.put, qI, qX, qY]
     refine anyT_takeA (i := 23) (v := ?_) (by simp only [qA, qS, qZ]; rfl) (by kernel_rfl) (by kernel_rfl) (by kernel_rfl) (by kernel_rfl) (fun _ _ _ h => h) (Or.inl ⟨by rfl, ?_⟩) (hS2) (Or.inl (by rfl)) ?_
     rotate_left 1
     ·intro w hSw; (try dsimp only at hSw); go_simp; (first | done | with_reducible rfl)
     try simp only [Act.put, qI, qX, qY]
     refine anyT_takeA (i := 24) (v := ?_) (by simp only [qA, qS, qZ]; rfl) (by kernel_rfl) (by kernel_rfl) (by kernel_rfl) (by kernel_rfl) (fun _ _ _ h => h) (Or.inl ⟨by rfl, ?_⟩) (hS2) (Or.inl (by rfl)) ?_
     rotate_left 1
     ·intro w hSw; (try dsimp only at hSw); go_simp; (first | done | with_reducible rfl)
     try simp only [Act.put, qI, qX, qY]
     refine anyT_done (by kernel_rfl) ?_ _
     refine NoPanic.normal ?_
     have hbx := below_from hbV hx2
     have hq2 := heap_below hx2 hqV
     have hz52 := heap_below hbx z5
     have hz32 := heap_below hbx HZ4.out.1
     have hz42 := heap_below hbx HZ4.out.2
     have hbw2 : Below w.heap.size w w2 := hbw1.trans (hbx.mono hbw1.size)
     obtain ⟨r5, t5⟩ := blk hz52
     obtain ⟨r6, t6⟩ := blk hq2
     have hqn : ¬ wc.heap.size = w.heap.size + 1 + 1 := Ne.symm hq0
     have hqn2 : ¬ w.heap.size + 1 + 1 = wc.heap.size := hq0
     clear hS0 hS2 hd
     go_wp2_with fail
     go_meet
     case rel => exact ⟨_, setCell_heap ((Below.heap_setCell w2 ⟨wc.heap.size, 0, none⟩ (.slice none 0 0) _ hq0).trans hz52) _, (Below.heap_setCell _ ⟨w.heap.size + 1 + 1, 0, none⟩ _ _ he4).trans ((Below.heap_setCell w2 ⟨wc.heap.size, 0, none⟩ (.slice none 0 0) _ hq1).trans hz42), (Below.heap_setCell _ ⟨w.heap.size + 1 + 1, 0, none⟩ _ _ he3).trans ((Below.heap_setCell w2 ⟨wc.heap.size, 0, none⟩ (.slice none 0 0) _ hqw).trans hz32), by rw [HN.out]; exact .inr ⟨[], 0, wc.heap.size, _, rfl, rfl, hqB, (Below.heap_setCell _ ⟨w.heap.size + 1 + 1, 0, none⟩ _ _ hqn).trans (setCell_heap hq2 _), SliceR.nil _ _ _ _ _ _⟩, (hbw2.setCell hl2 _).setCell hl1 _⟩
    ·replace HN : Hid (normP n.tag n.kids.length (some (i0 :: r, k)) = some ([], 0)) := Lib.hid (by rw [HN.out]; simp [h1])
     have h1d : decide (i0 < 0) = true := by simpa using h1
     refine wp_region_T (fun X => X.cell? ⟨wc.heap.size, 0, none⟩ = some (.slice (some ⟨pb, po, none⟩) (r.length + 1) pc2) ∧ X.cell? ⟨pb, po, none⟩ = some (.int .i64 i0) ∧ X.cell? ⟨w.heap.size + 1, 0, none⟩ = some (.int .i64 n.tag) ∧ X.cell? ⟨w.heap.size + 1, 1, none⟩ = some (.slice la n.attrs.length lc) ∧ X.cell? ⟨w.heap.size + 1, 2, none⟩ = some (.string ⟨n.text.toArray⟩) ∧ X.cell? ⟨w.heap.size + 1, 3, none⟩ = some (.slice ka n.kids.length kc)) (fun _ => True) 6 (by kernel_rfl) ?_
     refine anyT_takeA (i := 0) (v := ?_) (by simp only [qA, qS, qZ]; rfl) (by kernel_rfl) (by kernel_rfl) (by kernel_rfl) (by kernel_rfl) (fun _ _ _ h => h) (Or.inl ⟨by rfl, ?_⟩) (hS0) (Or.inr trivial) ?_
     rotate_left 1
     ·intro w hSw; (try dsimp only at hSw); go_simp; (first | done | with_reducible rfl)
     try simp only [Act.put, qI, qX, qY]
     refine anyT_takeA (i := 1) (v := ?_) (by simp only [qA, qS, qZ]; rfl) (by kernel_rfl) (by kernel_rfl) (by kernel_rfl) (by kernel_rfl) (fun _ _ _ h => h) (Or.inl ⟨by rfl, ?_⟩) (hS0) (Or.inr trivial) ?_
     rotate_left 1
     ·intro w hSw; (try dsimp only at hSw); go_simp; (first | done | with_reducible rfl)
     try simp only [Act.put, qI, qX, qY]
     refine anyT_takeA (i := 2) (v := ?_) (by simp only [qA, qS, qZ]; rfl) (by kernel_rfl) (by kernel_rfl) (by kernel_rfl) (by kernel_rfl) (fun _ _ _ h => h) (Or.inl ⟨by rfl, ?_⟩) (hS0) (Or.inr trivial) ?_
     rotate_left 1
     ·intro w hSw; (try dsimp only at hSw); go_simp; (first | done | with_reducible rfl)
     try simp only [Act.put, qI, qX, qY]
     refine anyT_takeA (i := 3) (v := ?_) (by simp only [qA, qS, qZ]; rfl) (by kernel_rfl) (by kernel_rfl) (by kernel_rfl) (by kernel_rfl) (fun _ _ _ h => h) (Or.inl ⟨by rfl, ?_⟩) (hS0) (Or.inr trivial) ?_
     rotate_left 1
     ·intro w hSw; (try dsimp only at hSw); go_simp; (first | done | with_reducible rfl)
     try simp only [Act.put, qI, qX, qY]
     refine anyT_takeA (i := 4) (v := ?_) (by simp only [qA, qS, qZ]; rfl) (by kernel_rfl) (by kernel_rfl) (by kernel_rfl) (by kernel_rfl) (fun _ _ _ h => h) (Or.inl ⟨by rfl, ?_⟩) (hS0) (Or.inr trivial) ?_
     rotate_left 1
     ·intro w hSw; (try dsimp only at hSw); go_simp; (first | done | with_reducible rfl)
     try simp only [Act.put, qI, qX, qY]
     refine anyT_takeA (i := 5) (v := ?_) (by simp only [qA, qS, qZ]; rfl) (by kernel_rfl) (by kernel_rfl) (by kernel_rfl) (by kernel_rfl) (fun _ _ _ h => h) (Or.inl ⟨by rfl, ?_⟩) (hS0) (Or.inr trivial) ?_
     rotate_left 1
     ·intro w hSw; (try dsimp only at hSw); go_simp; (first | done | with_reducible rfl)
     try simp only [Act.put, qI, qX, qY]
     refine anyT_ready (rs := [6]) (by kernel_rfl) (by simp) ?_
     refine AllReadyT.cons (by simp only [qA, qS, qZ]; rfl) (fun K hK => ?_) AllReadyT.nil
     go_simp
     refine (HAs2.out _).mono ?_
     rintro e w2 ⟨rfl, hb2⟩
     have hx2 := below_from hd hb2
     have hS2 := HSt.out _ hx2
     refine hK.out _ _ hS2 (Or.inl (by rfl)) ?_
     clear hK K
     try simp only [Act.put, qI, qX, qY]
     refine anyT_takeA (i := 7) (v := ?_) (by simp only [qA, qS, qZ]; rfl) (by kernel_rfl) (by kernel_rfl) (by kernel_rfl) (by kernel_rfl) (fun _ _ _ h => h) (Or.inl ⟨by rfl, ?_⟩) (hS2) (Or.inl (by rfl)) ?_
     rotate_left 1
     ·intro w hSw; (try dsimp only at hSw); go_simp; (first | done | with_reducible rfl)
     try simp only [Act.put, qI, qX, qY]
     refine anyT_takeA (i := 8) (v := ?_) (by simp only [qA, qS, qZ]; rfl) (by kernel_rfl) (by kernel_rfl) (by kernel_rfl) (by kernel_rfl) (fun _ _ _ h => h) (Or.inl ⟨by rfl, ?_⟩) (hS2) (Or.inl (by rfl)) ?_
     rotate_left 1
     ·intro w hSw; (try dsimp only at hSw); go_simp; (first | done | with_reducible rfl)
     try simp only [Act.put, qI, qX, qY]
     refine anyT_takeA (i := 9) (v := ?_) (by simp only [qA, qS, qZ]; rfl) (by kernel_rfl) (by kernel_rfl) (by kernel_rfl) (by kernel_rfl) (fun _ _ _ h => h) (Or.inl ⟨by rfl, ?_⟩) (hS2) (Or.inl (by rfl)) ?_
     rotate_left 1
     ·intro w hSw; (try dsimp only at hSw); go_simp; (first | done | with_reducible rfl)
     try simp only [Act.put, qI, qX, qY]
     refine anyT_takeA (i := 10) (v := ?_) (by simp only [qA, qS, qZ]; rfl) (by kernel_rfl) (by kernel_rfl) (by kernel_rfl) (by kernel_rfl) (fun _ _ _ h => h) (Or.inl ⟨by rfl, ?_⟩) (hS2) (Or.inl (by rfl)) ?_
     rotate_left 1
     ·intro w hSw; (try dsimp only at hSw); go_simp; (first | done | with_reducible rfl)
     try simp only [Act.put, qI, qX, qY]
     refine anyT_takeA (i := 11) (v := ?_) (by simp only [qA, qS, qZ]; rfl) (by kernel_rfl) (by kernel_rfl) (by kernel_rfl) (by kernel_rfl) (fun _ _ _ h => h) (Or.inl ⟨by rfl, ?_⟩) (hS2) (Or.inl (by rfl)) ?_
     rotate_left 1
     ·intro w hSw; (try dsimp only at hSw); go_simp; (first | done | with_reducible rfl)
     try simp only [Act.put, qI, qX, qY]
     refine anyT_takeA (i := 12) (v := ?_) (by simp only [qA, qS, qZ]; rfl) (by kernel_rfl) (by kernel_rfl) (by kernel_rfl) (by kernel_rfl) (fun _ _ _ h => h) (Or.inl ⟨by rfl, ?_⟩) (hS2) (Or.inl (by rfl)) ?_
     rotate_left 1
     ·intro w hSw; (try dsimp only at hSw); go_simp; (first | done | with_reducible rfl)
     try simp only [Act.put, qI, qX, qY]
     refine anyT_takeA (i := 13) (v := ?_) (by simp only [qA, qS, qZ]; rfl) (by kernel_rfl) (by kernel_rfl) (by kernel_rfl) (by kernel_rfl) (fun _ _ _ h => h) (Or.inl ⟨by rfl, ?_⟩) (hS2) (Or.inl (by rfl)) ?_
     rotate_left 1
     ·intro w hSw; (try dsimp only at hSw); go_simp; (first | done | with_reducible rfl)
     try simp only [Act.put, qI, qX, qY]
     refine anyT_takeA (i := 14) (v := ?_) (by simp only [qA, qS, qZ]; rfl) (by kernel_rfl) (by kernel_rfl) (by kernel_rfl) (by kernel_rfl) (fun _ _ _ h => h) (Or.inl ⟨by rfl, ?_⟩) (hS2) (Or.inl (by rfl)) ?_
     rotate_left 1
     ·intro w hSw; (try dsimp only at hSw); go_simp; (first | done | with_reducible rfl)
     try simp only [Act.put, qI, qX, qY]
     refine anyT_takeA (i := 15) (v := undef) (by simp only [qA, qS, qZ]; rfl) (by kernel_rfl) (by kernel_rfl) (by kernel_rfl) (by kernel_rfl) (fun _ _ _ h => h) (Or.inr ⟨by rfl, rfl⟩) (hS2) (Or.inl (by rfl)) ?_
     try simp only [Act.put, qI, qX, qY]
     refine anyT_takeA (i := 16) (v := undef) (by simp only [qA, qS, qZ]; rfl) (by kernel_rfl) (by kernel_rfl) (by kernel_rfl) (by kernel_rfl) (fun _ _ _ h => h) (Or.inr ⟨by rfl, rfl⟩) (hS2) (Or.inl (by rfl)) ?_
     try simp only [Act.put, qI, qX, qY]
     refine anyT_takeA (i := 17) (v := undef) (by simp only [qA, qS, qZ]; rfl) (by kernel_rfl) (by kernel_rfl) (by kernel_rfl) (by kernel_rfl) (fun _ _ _ h => h) (Or.inr ⟨by rfl, rfl⟩) (hS2) (Or.inl (by rfl)) ?_
     try simp only [Act.put, qI, qX, qY]
     refine anyT_takeA (i := 18) (v := undef) (by simp only [qA, qS, qZ]; rfl) (by kernel_rfl) (by kernel_rfl) (by kernel_rfl) (by kernel_rfl) (fun _ _ _ h => h) (Or.inr ⟨by rfl, rfl⟩) (hS2) (Or.inl (by rfl)) ?_
     try simp only [Act.put, qI, qX, qY]
     refine anyT_takeA (i := 19) (v := undef) (by simp only [qA, qS, qZ]; rfl) (by kernel_rfl) (by kernel_rfl) (by kernel_rfl) (by kernel_rfl) (fun _ _ _ h => h) (Or.inr ⟨by rfl, rfl⟩) (hS2) (Or.inl (by rfl)) ?_
     try simp only [Act.put, qI, qX, qY]
     refine anyT_takeA (i := 20) (v := undef) (by simp only [qA, qS, qZ]; rfl) (by kernel_rfl) (by kernel_rfl) (by kernel_rfl) (by kernel_rfl) (fun _ _ _ h => h) (Or.inr ⟨by rfl, rfl⟩) (hS2) (Or.inl (by rfl)) ?_
     try simp only [Act.put, qI, qX, qY]
     refine anyT_takeA (i := 21) (v := undef) (by simp only [qA, qS, qZ]; rfl) (by kernel_rfl) (by kernel_rfl) (by kernel_rfl) (by kernel_rfl) (fun _ _ _ h => h) (Or.inr ⟨by rfl, rfl⟩) (hS2) (Or.inl (by rfl)) ?_
     try simp only [Act.put, qI, qX, qY]
     refine anyT_takeA (i := 22) (v := undef) (by simp only [qA, qS, qZ]; rfl) (by kernel_rfl) (by kernel_rfl) (by kernel_rfl) (by kernel_rfl) (fun _ _ _ h => h) (Or.inr ⟨by rfl, rfl⟩) (hS2) (Or.inl (by rfl)) ?_
     try simp only [Act.put, qI, qX, qY]
     refine anyT_takeA (i := 23) (v := ?_) (by simp only [qA, qS, qZ]; rfl) (by kernel_rfl) (by kernel_rfl) (by kernel_rfl) (by kernel_rfl) (fun _ _ _ h => h) (Or.inl ⟨by rfl, ?_⟩) (hS2) (Or.inl (by rfl)) ?_
     rotate_left 1
     ·intro w hSw; (try dsimp only at hSw); go_simp; (first | done | with_reducible rfl)
     try simp only [Act.put, qI, qX, qY]
     refine anyT_takeA (i := 24) (v := ?_) (by simp only [qA, qS, qZ]; rfl) (by kernel_rfl) (by kernel_rfl) (by kernel_rfl) (by kernel_rfl) (fun _ _ _ h => h) (Or.inl ⟨by rfl, ?_⟩) (hS2) (Or.inl (by rfl)) ?_
     rotate_left 1
     ·intro w hSw; (try dsimp only at hSw); go_simp; (first | done | with_reducible rfl)
     try simp only [Act.put, qI, qX, qY]
     refine anyT_done (by kernel_rfl) ?_ _
     refine NoPanic.normal ?_
     have hbx := below_from hbV hx2
     have hq2 := heap_below hx2 hqV
     have hz52 := heap_below hbx z5
     have hz32 := heap_below hbx HZ4.out.1
     have hz42 := heap_below hbx HZ4.out.2
     have hbw2 : Below w.heap.size w w2 := hbw1.trans (hbx.mono hbw1.size)
     obtain ⟨r5, t5⟩ := blk hz52
     obtain ⟨r6, t6⟩ := blk hq2
     have hqn : ¬ wc.heap.size = w.heap.size + 1 + 1 := Ne.symm hq0
     have hqn2 : ¬ w.heap.size + 1 + 1 = wc.heap.size := hq0
     clear hS0 hS2 hd
     go_wp2_with fail
     go_meet
     case rel => exact ⟨_, setCell_heap ((Below.heap_setCell w2 ⟨wc.heap.size, 0, none⟩ (.slice none 0 0) _ hq0).trans hz52) _, (Below.heap_setCell _ ⟨w.heap.size + 1 + 1, 0, none⟩ _ _ he4).trans ((Below.heap_setCell w2 ⟨wc.heap.size, 0, none⟩ (.slice none 0 0) _ hq1).trans hz42), (Below.heap_setCell _ ⟨w.heap.size + 1 + 1, 0, none⟩ _ _ he3).trans ((Below.heap_setCell w2 ⟨wc.heap.size, 0, none⟩ (.slice none 0 0) _ hqw).trans hz32), by rw [HN.out]; exact .inr ⟨[], 0, wc.heap.size, _, rfl, rfl, hqB, (Below.heap_setCell _ ⟨w.heap.size + 1 + 1, 0, none⟩ _ _ hqn).trans (setCell_heap hq2 _), SliceR.nil _ _ _ _ _ _⟩, (hbw2.setCell hl2 _).setCell hl1 _⟩
    ·replace HN : Hid (normP n.tag n.kids.length (some (i0 :: r, k)) = some ([], 0)) := Lib.hid (by rw [HN.out]; simp [h2])
     have h1d : decide (i0 < 0) = false := by simpa using h1
     have h2d : decide ((n.kids.length : Int) ≤ i0) = true := by simpa using h2
     have i1d : (0 : Int) ≤ i0 := by omega
     clear h1
     refine wp_region_T (fun X => X.cell? ⟨wc.heap.size, 0, none⟩ = some (.slice (some ⟨pb, po, none⟩) (r.length + 1) pc2) ∧ X.cell? ⟨pb, po, none⟩ = some (.int .i64 i0) ∧ X.cell? ⟨w.heap.size + 1, 0, none⟩ = some (.int .i64 n.tag) ∧ X.cell? ⟨w.heap.size + 1, 1, none⟩ = some (.slice la n.attrs.length lc) ∧ X.cell? ⟨w.heap.size + 1, 2, none⟩ = some (.string ⟨n.text.toArray⟩) ∧ X.cell? ⟨w.heap.size + 1, 3, none⟩ = some (.slice ka n.kids.length kc)) (fun _ => True) 6 (by kernel_rfl) ?_
     refine anyT_takeA (i := 0) (v := ?_) (by simp only [qA, qS, qZ]; rfl) (by kernel_rfl) (by kernel_rfl) (by kernel_rfl) (by kernel_rfl) (fun _ _ _ h => h) (Or.inl ⟨by rfl, ?_⟩) (hS0) (Or.inr trivial) ?_
     rotate_left 1
     ·intro w hSw; (try dsimp only at hSw); go_simp; (first | done | with_reducible rfl)
     try simp only [Act.put, qI, qX, qY]
     refine anyT_takeA (i := 1) (v := ?_) (by simp only [qA, qS, qZ]; rfl) (by kernel_rfl) (by kernel_rfl) (by kernel_rfl) (by kernel_rfl) (fun _ _ _ h => h) (Or.inl ⟨by rfl, ?_⟩) (hS0) (Or.inr trivial) ?_
     rotate_left 1
     ·intro w hSw; (try dsimp only at hSw); go_simp; (first | done | with_reducible rfl)
     try simp only [Act.put, qI, qX, qY]
     refine anyT_takeA (i := 2) (v := ?_) (by simp only [qA, qS, qZ]; rfl) (by kernel_rfl) (by kernel_rfl) (by kernel_rfl) (by kernel_rfl) (fun _ _ _ h => h) (Or.inl ⟨by rfl, ?_⟩) (hS0) (Or.inr trivial) ?_
     rotate_left 1
     ·intro w hSw; (try dsimp only at hSw); go_simp; (first | done | with_reducible rfl)
     try simp only [Act.put, qI, qX, qY]
     refine anyT_takeA (i := 3) (v := ?_) (by simp only [qA, qS, qZ]; rfl) (by kernel_rfl) (by kernel_rfl) (by kernel_rfl) (by kernel_rfl) (fun _ _ _ h => h) (Or.inl ⟨by rfl, ?_⟩) (hS0) (Or.inr trivial) ?_
     rotate_left 1
     ·intro w hSw; (try dsimp only at hSw); go_simp; (first | done | with_reducible rfl)
     try simp only [Act.put, qI, qX, qY]
     refine anyT_takeA (i := 4) (v := ?_) (by simp only [qA, qS, qZ]; rfl) (by kernel_rfl) (by kernel_rfl) (by kernel_rfl) (by kernel_rfl) (fun _ _ _ h => h) (Or.inl ⟨by rfl, ?_⟩) (hS0) (Or.inr trivial) ?_
     rotate_left 1
     ·intro w hSw; (try dsimp only at hSw); go_simp; (first | done | with_reducible rfl)
     try simp only [Act.put, qI, qX, qY]
     refine anyT_takeA (i := 5) (v := ?_) (by simp only [qA, qS, qZ]; rfl) (by kernel_rfl) (by kernel_rfl) (by kernel_rfl) (by kernel_rfl) (fun _ _ _ h => h) (Or.inl ⟨by rfl, ?_⟩) (hS0) (Or.inr trivial) ?_
     rotate_left 1
     ·intro w hSw; (try dsimp only at hSw); go_simp; (first | done | with_reducible rfl)
     try simp only [Act.put, qI, qX, qY]
     refine anyT_ready (rs := [6]) (by kernel_rfl) (by simp) ?_
     refine AllReadyT.cons (by simp only [qA, qS, qZ]; rfl) (fun K hK => ?_) AllReadyT.nil
     go_simp
     refine (HAs2.out _).mono ?_
     rintro e w2 ⟨rfl, hb2⟩
     have hx2 := below_from hd hb2
     have hS2 := HSt.out _ hx2
     refine hK.out _ _ hS2 (Or.inl (by rfl)) ?_
     clear hK K
     try simp only [Act.put, qI, qX, qY]
     refine anyT_takeA (i := 7) (v := ?_) (by simp only [qA, qS, qZ]; rfl) (by kernel_rfl) (by kernel_rfl) (by kernel_rfl) (by kernel_rfl) (fun _ _ _ h => h) (Or.inl ⟨by rfl, ?_⟩) (hS2) (Or.inl (by rfl)) ?_
     rotate_left 1
     ·intro w hSw; (try dsimp only at hSw); go_simp; (first | done | with_reducible rfl)
     try simp only [Act.put, qI, qX, qY]
     refine anyT_takeA (i := 8) (v := ?_) (by simp only [qA, qS, qZ]; rfl) (by kernel_rfl) (by kernel_rfl) (by kernel_rfl) (by kernel_rfl) (fun _ _ _ h => h) (Or.inl ⟨by rfl, ?_⟩) (hS2) (Or.inl (by rfl)) ?_
     rotate_left 1
     ·intro w hSw; (try dsimp only at hSw); go_simp; (first | done | with_reducible rfl)
     try simp only [Act.put, qI, qX, qY]
     refine anyT_takeA (i := 9) (v := ?_) (by simp only [qA, qS, qZ]; rfl) (by kernel_rfl) (by kernel_rfl) (by kernel_rfl) (by kernel_rfl) (fun _ _ _ h => h) (Or.inl ⟨by rfl, ?_⟩) (hS2) (Or.inl (by rfl)) ?_
     rotate_left 1
     ·intro w hSw; (try dsimp only at hSw); go_simp; (first | done | with_reducible rfl)
     try simp only [Act.put, qI, qX, qY]
     refine anyT_takeA (i := 10) (v := ?_) (by simp only [qA, qS, qZ]; rfl) (by kernel_rfl) (by kernel_rfl) (by kernel_rfl) (by kernel_rfl) (fun _ _ _ h => h) (Or.inl ⟨by rfl, ?_⟩) (hS2) (Or.inl (by rfl)) ?_
     rotate_left 1
     ·intro w hSw; (try dsimp only at hSw); go_simp; (first | done | with_reducible rfl)
     try simp only [Act.put, qI, qX, qY]
     refine anyT_takeA (i := 11) (v := ?_) (by simp only [qA, qS, qZ]; rfl) (by kernel_rfl) (by kernel_rfl) (by kernel_rfl) (by kernel_rfl) (fun _ _ _ h => h) (Or.inl ⟨by rfl, ?_⟩) (hS2) (Or.inl (by rfl)) ?_
     rotate_left 1
     ·intro w hSw; (try dsimp only at hSw); go_simp; (first | done | with_reducible rfl)
     try simp only [Act.put, qI, qX, qY]
     refine anyT_takeA (i := 12) (v := ?_) (by simp only [qA, qS, qZ]; rfl) (by kernel_rfl) (by kernel_rfl) (by kernel_rfl) (by kernel_rfl) (fun _ _ _ h => h) (Or.inl ⟨by rfl, ?_⟩) (hS2) (Or.inl (by rfl)) ?_
     rotate_left 1
     ·intro w hSw; (try dsimp only at hSw); go_simp; (first | done | with_reducible rfl)
     try simp only [Act.put, qI, qX, qY]
     refine anyT_takeA (i := 13) (v := ?_) (by simp only [qA, qS, qZ]; rfl) (by kernel_rfl) (by kernel_rfl) (by kernel_rfl) (by kernel_rfl) (fun _ _ _ h => h) (Or.inl ⟨by rfl, ?_⟩) (hS2) (Or.inl (by rfl)) ?_
     rotate_left 1
     ·intro w hSw; (try dsimp only at hSw); go_simp; (first | done | with_reducible rfl)
     try simp only [Act.put, qI, qX, qY]
     refine anyT_takeA (i := 14) (v := ?_) (by simp only [qA, qS, qZ]; rfl) (by kernel_rfl) (by kernel_rfl) (by kernel_rfl) (by kernel_rfl) (fun _ _ _ h => h) (Or.inl ⟨by rfl, ?_⟩) (hS2) (Or.inl (by rfl)) ?_
     rotate_left 1
     ·intro w hSw; (try dsimp only at hSw); go_simp; (first | done | with_reducible rfl)
     try simp only [Act.put, qI, qX, qY]
     refine anyT_takeA (i := 15) (v := ?_) (by simp only [qA, qS, qZ]; rfl) (by kernel_rfl) (by kernel_rfl) (by kernel_rfl) (by kernel_rfl) (fun _ _ _ h => h) (Or.inl ⟨by rfl, ?_⟩) (hS2) (Or.inl (by rfl)) ?_
     rotate_left 1
     ·intro w hSw; (try dsimp only at hSw); go_simp; (first | done | with_reducible rfl)
     try simp only [Act.put, qI, qX, qY]
     refine anyT_takeA (i := 16) (v := ?_) (by simp only [qA, qS, qZ]; rfl) (by kernel_rfl) (by kernel_rfl) (by kernel_rfl) (by kernel_rfl) (fun _ _ _ h => h) (Or.inl ⟨by rfl, ?_⟩) (hS2) (Or.inl (by rfl)) ?_
     rotate_left 1
     ·intro w hSw; (try dsimp only at hSw); go_simp; (first | done | with_reducible rfl)
     try simp only [Act.put, qI, qX, qY]
     refine anyT_takeA (i := 17) (v := ?_) (by simp only [qA, qS, qZ]; rfl) (by kernel_rfl) (by kernel_rfl) (by kernel_rfl) (by kernel_rfl) (fun _ _ _ h => h) (Or.inl ⟨by rfl, ?_⟩) (hS2) (Or.inl (by rfl)) ?_
     rotate_left 1
     ·intro w hSw; (try dsimp only at hSw); go_simp; (first | done | with_reducible rfl)
     try simp only [Act.put, qI, qX, qY]
     refine anyT_takeA (i := 18) (v := ?_) (by simp only [qA, qS, qZ]; rfl) (by kernel_rfl) (by kernel_rfl) (by kernel_rfl) (by kernel_rfl) (fun _ _ _ h => h) (Or.inl ⟨by rfl, ?_⟩) (hS2) (Or.inl (by rfl)) ?_
     rotate_left 1
     ·intro w hSw; (try dsimp only at hSw); go_simp; (first | done | with_reducible rfl)
     try simp only [Act.put, qI, qX, qY]
     refine anyT_takeA (i := 19) (v := ?_) (by simp only [qA, qS, qZ]; rfl) (by kernel_rfl) (by kernel_rfl) (by kernel_rfl) (by kernel_rfl) (fun _ _ _ h => h) (Or.inl ⟨by rfl, ?_⟩) (hS2) (Or.inl (by rfl)) ?_
     rotate_left 1
     ·intro w hSw; (try dsimp only at hSw); go_simp; (first | done | with_reducible rfl)
     try simp only [Act.put, qI, qX, qY]
     refine anyT_takeA (i := 20) (v := ?_) (by simp only [qA, qS, qZ]; rfl) (by kernel_rfl) (by kernel_rfl) (by kernel_rfl) (by kernel_rfl) (fun _ _ _ h => h) (Or.inl ⟨by rfl, ?_⟩) (hS2) (Or.inl (by rfl)) ?_
     rotate_left 1
     ·intro w hSw; (try dsimp only at hSw); go_simp; (first | done | with_reducible rfl)
     try simp only [Act.put, qI, qX, qY]
     refine anyT_takeA (i := 21) (v := ?_) (by simp only [qA, qS, qZ]; rfl) (by kernel_rfl) (by kernel_rfl) (by kernel_rfl) (by kernel_rfl) (fun _ _ _ h => h) (Or.inl ⟨by rfl, ?_⟩) (hS2) (Or.inl (by rfl)) ?_
     rotate_left 1
     ·intro w hSw; (try dsimp only at hSw); go_simp; (first | done | with_reducible rfl)
     try simp only [Act.put, qI, qX, qY]
     refine anyT_takeA (i := 22) (v := ?_) (by simp only [qA, qS, qZ]; rfl) (by kernel_rfl) (by kernel_rfl) (by kernel_rfl) (by kernel_rfl) (fun _ _ _ h => h) (Or.inl ⟨by rfl, ?_⟩) (hS2) (Or.inl (by rfl)) ?_
     rotate_left 1
     ·intro w hSw; (try dsimp only at hSw); go_simp; (first | done | with_reducible rfl)
     try simp only [Act.put, qI, qX, qY]
     refine anyT_takeA (i := 23) (v := ?_) (by simp only [qA, qS, qZ]; rfl) (by kernel_rfl) (by kernel_rfl) (by kernel_rfl) (by kernel_rfl) (fun _ _ _ h => h) (Or.inl ⟨by rfl, ?_⟩) (hS2) (Or.inl (by rfl)) ?_
     rotate_left 1
     ·intro w hSw; (try dsimp only at hSw); go_simp; (first | done | with_reducible rfl)
     try simp only [Act.put, qI, qX, qY]
     refine anyT_takeA (i := 24) (v := ?_) (by simp only [qA, qS, qZ]; rfl) (by kernel_rfl) (by kernel_rfl) (by kernel_rfl) (by kernel_rfl) (fun _ _ _ h => h) (Or.inl ⟨by rfl, ?_⟩) (hS2) (Or.inl (by rfl)) ?_
     rotate_left 1
     ·intro w hSw; (try dsimp only at hSw); go_simp; (first | done | with_reducible rfl)
     try simp only [Act.put, qI, qX, qY]
     refine anyT_done (by kernel_rfl) ?_ _
     refine NoPanic.normal ?_
     have hbx := below_from hbV hx2
     have hq2 := heap_below hx2 hqV
     have hz52 := heap_below hbx z5
     have hz32 := heap_below hbx HZ4.out.1
     have hz42 := heap_below hbx HZ4.out.2
     have hbw2 : Below w.heap.size w w2 := hbw1.trans (hbx.mono hbw1.size)
     obtain ⟨r5, t5⟩ := blk hz52
     obtain ⟨r6, t6⟩ := blk hq2
     have hqn : ¬ wc.heap.size = w.heap.size + 1 + 1 := Ne.symm hq0
     have hqn2 : ¬ w.heap.size + 1 + 1 = wc.heap.size := hq0
     clear hS0 hS2 hd
     go_wp2_with fail
     go_meet
     case rel => exact ⟨_, setCell_heap ((Below.heap_setCell w2 ⟨wc.heap.size, 0, none⟩ (.slice none 0 0) _ hq0).trans hz52) _, (Below.heap_setCell _ ⟨w.heap.size + 1 + 1, 0, none⟩ _ _ he4).trans ((Below.heap_setCell w2 ⟨wc.heap.size, 0, none⟩ (.slice none 0 0) _ hq1).trans hz42), (Below.heap_setCell _ ⟨w.heap.size + 1 + 1, 0, none⟩ _ _ he3).trans ((Below.heap_setCell w2 ⟨wc.heap.size, 0, none⟩ (.slice none 0 0) _ hqw).trans hz32), by rw [HN.out]; exact .inr ⟨[], 0, wc.heap.size, _, rfl, rfl, hqB, (Below.heap_setCell _ ⟨w.heap.size + 1 + 1, 0, none⟩ _ _ hqn).trans (setCell_heap hq2 _), SliceR.nil _ _ _ _ _ _⟩, (hbw2.setCell hl2 _).setCell hl1 _⟩
    ·replace HN : Hid (normP n.tag n.kids.length (some (i0 :: r, k)) = some (i0 :: r, 0)) := Lib.hid (by
      have hb := HBD.out
      rw [HN.out]
      simp only [h1, h2, decide_false, Bool.or_false, Bool.false_or, decide_eq_true_eq] at hb
      simp [h1, h2, hb])
     have h1d : decide (i0 < 0) = false := by simpa using h1
     have h2d : decide ((n.kids.length : Int) ≤ i0) = false := by simpa using h2
     have i1d : (0 : Int) ≤ i0 := by omega
     clear h2
     clear h1
     refine wp_region_T (fun X => X.cell? ⟨wc.heap.size, 0, none⟩ = some (.slice (some ⟨pb, po, none⟩) (r.length + 1) pc2) ∧ X.cell? ⟨pb, po, none⟩ = some (.int .i64 i0) ∧ X.cell? ⟨w.heap.size + 1, 0, none⟩ = some (.int .i64 n.tag) ∧ X.cell? ⟨w.heap.size + 1, 1, none⟩ = some (.slice la n.attrs.length lc) ∧ X.cell? ⟨w.heap.size + 1, 2, none⟩ = some (.string ⟨n.text.toArray⟩) ∧ X.cell? ⟨w.heap.size + 1, 3, none⟩ = some (.slice ka n.kids.length kc)) (fun _ => True) 6 (by kernel_rfl) ?_
     refine anyT_takeA (i := 0) (v := ?_) (by simp only [qA, qS, qZ]; rfl) (by kernel_rfl) (by kernel_rfl) (by kernel_rfl) (by kernel_rfl) (fun _ _ _ h => h) (Or.inl ⟨by rfl, ?_⟩) (hS0) (Or.inr trivial) ?_
     rotate_left 1
     ·intro w hSw; (try dsimp only at hSw); go_simp; (first | done | with_reducible rfl)
     try simp only [Act.put, qI, qX, qY]
     refine anyT_takeA (i := 1) (v := ?_) (by simp only [qA, qS, qZ]; rfl) (by kernel_rfl) (by kernel_rfl) (by kernel_rfl) (by kernel_rfl) (fun _ _ _ h => h) (Or.inl ⟨by rfl, ?_⟩) (hS0) (Or.inr trivial) ?_
     rotate_left 1
     ·intro w hSw; (try dsimp only at hSw); go_simp; (first | done | with_reducible rfl)
     try simp only [Act.put, qI, qX, qY]
     refine anyT_takeA (i := 2) (v := ?_) (by simp only [qA, qS, qZ]; rfl) (by kernel_rfl) (by kernel_rfl) (by kernel_rfl) (by kernel_rfl) (fun _ _ _ h => h) (Or.inl ⟨by rfl, ?_⟩) (hS0) (Or.inr trivial) ?_
     rotate_left 1
     ·intro w hSw; (try dsimp only at hSw); go_simp; (first | done | with_reducible rfl)
     try simp only [Act.put, qI, qX, qY]
     refine anyT_takeA (i := 3) (v := ?_) (by simp only [qA, qS, qZ]; rfl) (by kernel_rfl) (by kernel_rfl) (by kernel_rfl) (by kernel_rfl) (fun _ _ _ h => h) (Or.inl ⟨by rfl, ?_⟩) (hS0) (Or.inr trivial) ?_
     rotate_left 1
     ·intro w hSw; (try dsimp only at hSw); go_simp; (first | done | with_reducible rfl)
     try simp only [Act.put, qI, qX, qY]
     refine anyT_takeA (i := 4) (v := ?_) (by simp only [qA, qS, qZ]; rfl) (by kernel_rfl) (by kernel_rfl) (by kernel_rfl) (by kernel_rfl) (fun _ _ _ h => h) (Or.inl ⟨by rfl, ?_⟩) (hS0) (Or.inr trivial) ?_
     rotate_left 1
     ·intro w hSw; (try dsimp only at hSw); go_simp; (first | done | with_reducible rfl)
     try simp only [Act.put, qI, qX, qY]
     refine anyT_takeA (i := 5) (v := ?_) (by simp only [qA, qS, qZ]; rfl) (by kernel_rfl) (by kernel_rfl) (by kernel_rfl) (by kernel_rfl) (fun _ _ _ h => h) (Or.inl ⟨by rfl, ?_⟩) (hS0) (Or.inr trivial) ?_
     rotate_left 1
     ·intro w hSw; (try dsimp only at hSw); go_simp; (first | done | with_reducible rfl)
     try simp only [Act.put, qI, qX, qY]
     refine anyT_ready (rs := [6]) (by kernel_rfl) (by simp) ?_
     refine AllReadyT.cons (by simp only [qA, qS, qZ]; rfl) (fun K hK => ?_) AllReadyT.nil
     go_simp
     refine (HAs2.out _).mono ?_
     rintro e w2 ⟨rfl, hb2⟩
     have hx2 := below_from hd hb2
     have hS2 := HSt.out _ hx2
     refine hK.out _ _ hS2 (Or.inl (by rfl)) ?_
     clear hK K
     try simp only [Act.put, qI, qX, qY]
     refine anyT_takeA (i := 7) (v := ?_) (by simp only [qA, qS, qZ]; rfl) (by kernel_rfl) (by kernel_rfl) (by kernel_rfl) (by kernel_rfl) (fun _ _ _ h => h) (Or.inl ⟨by rfl, ?_⟩) (hS2) (Or.inl (by rfl)) ?_
     rotate_left 1
     ·intro w hSw; (try dsimp only at hSw); go_simp; (first | done | with_reducible rfl)
     try simp only [Act.put, qI, qX, qY]
     refine anyT_takeA (i := 8) (v := ?_) (by simp only [qA, qS, qZ]; rfl) (by kernel_rfl) (by kernel_rfl) (by kernel_rfl) (by kernel_rfl) (fun _ _ _ h => h) (Or.inl ⟨by rfl, ?_⟩) (hS2) (Or.inl (by rfl)) ?_
     rotate_left 1
     ·intro w hSw; (try dsimp only at hSw); go_simp; (first | done | with_reducible rfl)
     try simp only [Act.put, qI, qX, qY]
     refine anyT_takeA (i := 9) (v := ?_) (by simp only [qA, qS, qZ]; rfl) (by kernel_rfl) (by kernel_rfl) (by kernel_rfl) (by kernel_rfl) (fun _ _ _ h => h) (Or.inl ⟨by rfl, ?_⟩) (hS2) (Or.inl (by rfl)) ?_
     rotate_left 1
     ·intro w hSw; (try dsimp only at hSw); go_simp; (first | done | with_reducible rfl)
     try simp only [Act.put, qI, qX, qY]
     refine anyT_takeA (i := 10) (v := ?_) (by simp only [qA, qS, qZ]; rfl) (by kernel_rfl) (by kernel_rfl) (by kernel_rfl) (by kernel_rfl) (fun _ _ _ h => h) (Or.inl ⟨by rfl, ?_⟩) (hS2) (Or.inl (by rfl)) ?_
     rotate_left 1
     ·intro w hSw; (try dsimp only at hSw); go_simp; (first | done | with_reducible rfl)
     try simp only [Act.put, qI, qX, qY]
     refine anyT_takeA (i := 11) (v := ?_) (by simp only [qA, qS, qZ]; rfl) (by kernel_rfl) (by kernel_rfl) (by kernel_rfl) (by kernel_rfl) (fun _ _ _ h => h) (Or.inl ⟨by rfl, ?_⟩) (hS2) (Or.inl (by rfl)) ?_
     rotate_left 1
     ·intro w hSw; (try dsimp only at hSw); go_simp; (first | done | with_reducible rfl)
     try simp only [Act.put, qI, qX, qY]
     refine anyT_takeA (i := 12) (v := ?_) (by simp only [qA, qS, qZ]; rfl) (by kernel_rfl) (by kernel_rfl) (by kernel_rfl) (by kernel_rfl) (fun _ _ _ h => h) (Or.inl ⟨by rfl, ?_⟩) (hS2) (Or.inl (by rfl)) ?_
     rotate_left 1
     ·intro w hSw; (try dsimp only at hSw); go_simp; (first | done | with_reducible rfl)
     try simp only [Act.put, qI, qX, qY]
     refine anyT_takeA (i := 13) (v := ?_) (by simp only [qA, qS, qZ]; rfl) (by kernel_rfl) (by kernel_rfl) (by kernel_rfl) (by kernel_rfl) (fun _ _ _ h => h) (Or.inl ⟨by rfl, ?_⟩) (hS2) (Or.inl (by rfl)) ?_
     rotate_left 1
     ·intro w hSw; (try dsimp only at hSw); go_simp; (first | done | with_reducible rfl)
     try simp only [Act.put, qI, qX, qY]
     refine anyT_takeA (i := 14) (v := ?_) (by simp only [qA, qS, qZ]; rfl) (by kernel_rfl) (by kernel_rfl) (by kernel_rfl) (by kernel_rfl) (fun _ _ _ h => h) (Or.inl ⟨by rfl, ?_⟩) (hS2) (Or.inl (by rfl)) ?_
     rotate_left 1
     ·intro w hSw; (try dsimp only at hSw); go_simp; (first | done | with_reducible rfl)
     try simp only [Act.put, qI, qX, qY]
     refine anyT_takeA (i := 15) (v := ?_) (by simp only [qA, qS, qZ]; rfl) (by kernel_rfl) (by kernel_rfl) (by kernel_rfl) (by kernel_rfl) (fun _ _ _ h => h) (Or.inl ⟨by rfl, ?_⟩) (hS2) (Or.inl (by rfl)) ?_
     rotate_left 1
     ·intro w hSw; (try dsimp only at hSw); go_simp; (first | done | with_reducible rfl)
     try simp only [Act.put, qI, qX, qY]
     refine anyT_takeA (i := 16) (v := ?_) (by simp only [qA, qS, qZ]; rfl) (by kernel_rfl) (by kernel_rfl) (by kernel_rfl) (by kernel_rfl) (fun _ _ _ h => h) (Or.inl ⟨by rfl, ?_⟩) (hS2) (Or.inl (by rfl)) ?_
     rotate_left 1
     ·intro w hSw; (try dsimp only at hSw); go_simp; (first | done | with_reducible rfl)
     try simp only [Act.put, qI, qX, qY]
     refine anyT_takeA (i := 17) (v := ?_) (by simp only [qA, qS, qZ]; rfl) (by kernel_rfl) (by kernel_rfl) (by kernel_rfl) (by kernel_rfl) (fun _ _ _ h => h) (Or.inl ⟨by rfl, ?_⟩) (hS2) (Or.inl (by rfl)) ?_
     rotate_left 1
     ·intro w hSw; (try dsimp only at hSw); go_simp; (first | done | with_reducible rfl)
     try simp only [Act.put, qI, qX, qY]
     refine anyT_takeA (i := 18) (v := ?_) (by simp only [qA, qS, qZ]; rfl) (by kernel_rfl) (by kernel_rfl) (by kernel_rfl) (by kernel_rfl) (fun _ _ _ h => h) (Or.inl ⟨by rfl, ?_⟩) (hS2) (Or.inl (by rfl)) ?_
     rotate_left 1
     ·intro w hSw; (try dsimp only at hSw); go_simp; (first | done | with_reducible rfl)
     try simp only [Act.put, qI, qX, qY]
     refine anyT_takeA (i := 19) (v := ?_) (by simp only [qA, qS, qZ]; rfl) (by kernel_rfl) (by kernel_rfl) (by kernel_rfl) (by kernel_rfl) (fun _ _ _ h => h) (Or.inl ⟨by rfl, ?_⟩) (hS2) (Or.inl (by rfl)) ?_
     rotate_left 1
     ·intro w hSw; (try dsimp only at hSw); go_simp; (first | done | with_reducible rfl)
     try simp only [Act.put, qI, qX, qY]
     refine anyT_takeA (i := 20) (v := ?_) (by simp only [qA, qS, qZ]; rfl) (by kernel_rfl) (by kernel_rfl) (by kernel_rfl) (by kernel_rfl) (fun _ _ _ h => h) (Or.inl ⟨by rfl, ?_⟩) (hS2) (Or.inl (by rfl)) ?_
     rotate_left 1
     ·intro w hSw; (try dsimp only at hSw); go_simp; (first | done | with_reducible rfl)
     try simp only [Act.put, qI, qX, qY]
     refine anyT_takeA (i := 21) (v := ?_) (by simp only [qA, qS, qZ]; rfl) (by kernel_rfl) (by kernel_rfl) (by kernel_rfl) (by kernel_rfl) (fun _ _ _ h => h) (Or.inl ⟨by rfl, ?_⟩) (hS2) (Or.inl (by rfl)) ?_
     rotate_left 1
     ·intro w hSw; (try dsimp only at hSw); go_simp; (first | done | with_reducible rfl)
     try simp only [Act.put, qI, qX, qY]
     refine anyT_takeA (i := 22) (v := ?_) (by simp only [qA, qS, qZ]; rfl) (by kernel_rfl) (by kernel_rfl) (by kernel_rfl) (by kernel_rfl) (fun _ _ _ h => h) (Or.inl ⟨by rfl, ?_⟩) (hS2) (Or.inl (by rfl)) ?_
     rotate_left 1
     ·intro w hSw; (try dsimp only at hSw); go_simp; (first | done | with_reducible rfl)
     try simp only [Act.put, qI, qX, qY]
     refine anyT_takeA (i := 23) (v := ?_) (by simp only [qA, qS, qZ]; rfl) (by kernel_rfl) (by kernel_rfl) (by kernel_rfl) (by kernel_rfl) (fun _ _ _ h => h) (Or.inl ⟨by rfl, ?_⟩) (hS2) (Or.inl (by rfl)) ?_
     rotate_left 1
     ·intro w hSw; (try dsimp only at hSw); go_simp; (first | done | with_reducible rfl)
     try simp only [Act.put, qI, qX, qY]
     refine anyT_takeA (i := 24) (v := ?_) (by simp only [qA, qS, qZ]; rfl) (by kernel_rfl) (by kernel_rfl) (by kernel_rfl) (by kernel_rfl) (fun _ _ _ h => h) (Or.inl ⟨by rfl, ?_⟩) (hS2) (Or.inl (by rfl)) ?_
     rotate_left 1
     ·intro w hSw; (try dsimp only at hSw); go_simp; (first | done | with_reducible rfl)
     try simp only [Act.put, qI, qX, qY]
     refine anyT_done (by kernel_rfl) ?_ _
     refine NoPanic.normal ?_
     have hbx := below_from hbV hx2
     have hq2 := heap_below hx2 hqV
     have hz52 := heap_below hbx z5
     have hz32 := heap_below hbx HZ4.out.1
     have hz42 := heap_below hbx HZ4.out.2
     have hbw2 : Below w.heap.size w w2 := hbw1.trans (hbx.mono hbw1.size)
     obtain ⟨r5, t5⟩ := blk hz52
     obtain ⟨r6, t6⟩ := blk hq2
     have hqn : ¬ wc.heap.size = w.heap.size + 1 + 1 := Ne.symm hq0
     have hqn2 : ¬ w.heap.size + 1 + 1 = wc.heap.size := hq0
     clear hS0 hS2 hd
     go_wp2_with fail
     go_meet
     case rel => exact ⟨_, setCell_heap hz52 _, (Below.heap_setCell w2 ⟨w.heap.size + 1 + 1, 0, none⟩ _ _ he4).trans hz42, (Below.heap_setCell w2 ⟨w.heap.size + 1 + 1, 0, none⟩ _ _ he3).trans hz32, by rw [HN.out]; exact .inr ⟨i0 :: r, 0, wc.heap.size, _, rfl, rfl, hqB, (Below.heap_setCell w2 ⟨w.heap.size + 1 + 1, 0, none⟩ _ _ hqn).trans hq2, HH5.out⟩, hbw2.setCell hl1 _⟩
 case rest =>
 obtain ⟨pa2, z5, z4, z3, hP2, hb2⟩ := hcut
 have hg : Given h n _ _ _ (normP n.tag n.kids.length p) B w.heap.size (w.heap.size + 1) (w.heap.size + 1 + 1) wc w0 S S' := ⟨HAK.out.1, HAK.out.2, HW.out.1, HW.out.2.1.trans (hb2.mono HW.out.2.1.size), HW.out.2.2, hP2, z3, z4, z5, by omega, by omega, by omega⟩
 have hVc := HV.out.below hb2
 have hBc := hVc.lt
 have HC : Hid (Calls Tryz.prog 17 #[.int .i64 n.tag] wc fun e w' => e = .returned (.int .i64 (tagC n.tag)) ∧ Below wc.heap.size wc w') := Lib.hid (tagsClass_any n.tag wc)
 have HGiv : Hid (∀ X, Below wc.heap.size wc X → Given h n _ _ _ (normP n.tag n.kids.length p) B w.heap.size (w.heap.size + 1) (w.heap.size + 1 + 1) X w0 S S') := Lib.hid fun X hX => hg.keep (KeepT.of hX) hBc
 have HVc := Lib.hid hVc
 have HB2 := Lib.hid hb2
 have HH := Lib.hid hk
 have HCS := Lib.hid HCs
 have HTag := Lib.hid (tagC_cases n.tag)
 have HN1 := Lib.hid (fun (e : tagC n.tag = 1) => node_1 e a p s)
 have HN5 := Lib.hid (fun (e : tagC n.tag = 5) => node_5 e a p s)
 have HN3 := Lib.hid (fun (e : tagC n.tag = 3) => node_3 e a p s)
 have HN2 := Lib.hid (fun (e : tagC n.tag = 2) => node_2 e a p s)
 have HN4 := Lib.hid (fun (e : tagC n.tag = 0 ∨ tagC n.tag = 4) => node_4 e a p s)
 have HNt := Lib.hid (fun (e : asideT n.tag = true) => norm_text e n.kids.length p)
 have HTx := Lib.hid (cap_parts n)
 obtain ⟨q4, g4⟩ := blk z4
 clear hP2 hb2 hVc z3 z5 hk HCs HZ HP HBd HAs HKl
 go_upto_region 8 with (go_at_call 17; refine HC.out.mono ?_; rintro e w3 ⟨rfl, hb3⟩)
 have g3 := HGiv.out _ hb3
 have hV3 := HVc.out.below hb3
 have hx3 : Below w.heap.size w w3 := HB2.out.trans (hb3.mono HB2.out.size)
 have hB3 := hV3.lt
 obtain ⟨s3, t3⟩ := blk g3.z3
 obtain ⟨s4, t4⟩ := blk g3.z4
 obtain ⟨s5, t5⟩ := blk g3.z5
 have HG3 := Lib.hid g3
 have HV3 := Lib.hid hV3
 clear q4 g4 g3 hV3 z4
 have hcs := HTag.out
 generalize hct : tagC n.tag = c at *
 have HCT := Lib.hid hct
 clear hct
 rcases hcs with rfl | rfl | rfl | rfl | rfl | ⟨rfl, ht1, ht2⟩
 ·have hasd : asideT n.tag = true := by unfold asideT; rw [HCT.out]; rfl
  have hnt := HNt.out hasd
  have HE := Lib.hid (HN1.out rfl)
  have htx : (⟨n.text.toArray⟩ : ByteArray).size = n.text.length := by simp [ByteArray.size]
  have hcap := HAr.out.2.2.2
  have hct2 := HTx.out
  rcases hnt with hnt | ⟨k, hnt⟩
  ·have hpl := HG3.out.plc
   rw [hnt] at hpl HE
   rcases hpl with ⟨_, hpa⟩ | ⟨_, _, _, _, h, _⟩
   ·cases hpa
    have HTxt := Lib.hid (text_any ⟨n.text.toArray⟩ none B a lv s w3 HV3.out HAr.out.2.1 (by rw [htx]; omega) (by rw [htx]; omega) (Nat.le_trans HAr.out.1.2.2 (by decide)))
    simp only [Option.isSome_none, Option.getD_none] at HTxt
    clear htx hct2 hcap
    go_wp2_with (go_at_call 92; refine HTxt.out.mono ?_; rintro e w5 ⟨⟨u, rfl⟩, hv5, hk5⟩)
    go_returns
    rw [HE.out]
    exact ⟨⟨_, rfl⟩, hv5, (KeepT.of hx3).trans hk5⟩
   ·cases h
  ·have hpl := HG3.out.plc
   rw [hnt] at hpl HE
   rcases hpl with ⟨h, _⟩ | ⟨path, k2, b, v, h1, hpa, h3, h4, h5⟩
   ·cases h
   ·cases h1
    cases hpa
    obtain ⟨s6, t6⟩ := blk h4
    have HTxt := Lib.hid (text_any ⟨n.text.toArray⟩ (some k) B a lv s w3 HV3.out HAr.out.2.1 (by rw [htx]; omega) (by rw [htx]; omega) (Nat.le_trans HAr.out.1.2.2 (by decide)))
    simp only [Option.isSome_some, Option.getD_some] at HTxt
    clear htx hct2 hcap
    go_wp2_with (go_at_call 92; refine HTxt.out.mono ?_; rintro e w5 ⟨⟨u, rfl⟩, hv5, hk5⟩)
    go_returns
    rw [HE.out]
    exact ⟨⟨_, rfl⟩, hv5, (KeepT.of hx3).trans hk5⟩
 ·have HE := Lib.hid (HN5.out rfl)
  have hcap := HAr.out.2.2.2
  rcases HG3.out.plc with ⟨hn, hpa⟩ | ⟨path, k2, b, v, hn, hpa, h3, h4, h5⟩
  ·cases hpa
   rw [hn] at HE
   have HPut := Lib.hid (put_any B a lv s 10 w3 HV3.out HAr.out.2.1 (by omega) (Nat.le_trans HAr.out.1.2.2 (by decide)))
   clear hcap
   go_wp2_with (go_at_call 94; refine HPut.out.mono ?_; rintro e w5 ⟨⟨u, rfl⟩, hv5, hk5⟩)
   go_returns
   rw [HE.out]
   exact ⟨⟨_, rfl⟩, hv5, (KeepT.of hx3).trans hk5⟩
  ·cases hpa
   rw [hn] at HE
   have HMet := Lib.hid (met_any B a lv s w3 HV3.out HAr.out.2.1 (by unfold capV at hcap; omega))
   have HPut : Hid (∀ W, VwR B W a lv (metV s) → Calls Tryz.prog 94 #[.pointer (some ⟨B, 0, none⟩), .int .i32 10] W fun e w' => (∃ u, e = .returned u) ∧ VwR B w' a lv (putV a 10 (metV s)) ∧ KeepT B W w') := Lib.hid fun W hW => put_any B a lv _ 10 W hW (opw_met HAr.out.2.1) (by rw [cap_met]; omega) (Nat.le_trans HAr.out.1.2.2 (by decide))
   clear hcap
   go_wp2_with (first
    | (go_at_call 93; refine HMet.out.mono ?_; rintro e w5 ⟨⟨u, rfl⟩, hv5, hk5⟩; obtain ⟨s7, t7⟩ := blk (hk5.heap HG3.out.z3 HG3.out.n3 (by decide) (by decide)))
    | (go_at_call 94; refine (HPut.out _ hv5).mono ?_; rintro e w6 ⟨⟨u, rfl⟩, hv6, hk6⟩))
   go_returns
   rw [HE.out]
   exact ⟨⟨_, rfl⟩, hv6, ((KeepT.of hx3).trans hk5).trans hk6⟩
 ·have HE := Lib.hid (HN4.out (.inl rfl))
  have HWi := Lib.hid (within_any 96 #[.pointer (some ⟨w.heap.size + 1, 0, none⟩), .pointer (some ⟨w.heap.size, 0, none⟩), .pointer (some ⟨w.heap.size + 1 + 1, 0, none⟩)] (enters_of Tryz.func96 (by kernel_rfl) rfl) B a lv s (kidsV n.kids 0 { a with bits := bitsN n a.bits, href := linkN n a.href } (normP n.tag n.kids.length p) s) w3 HV3.out fun W hW hVW => inl_any HCS.out h HH.out n _ _ _ _ B w.heap.size (w.heap.size + 1) (w.heap.size + 1 + 1) a lv s W w0 S S' (HG3.out.keep (KeepT.of hW) hB3) hVW HAr.out.1 HAr.out.2.1 HAr.out.2.2.1 HAr.out.2.2.2)
  rw [← HE.out] at HWi
  go_wp2_with (go_at_call 95; refine HWi.out.mono ?_; rintro e w5 ⟨⟨u, rfl⟩, hv5, hk5⟩)
  go_returns
  exact ⟨⟨_, rfl⟩, hv5, (KeepT.of hx3).trans hk5⟩
 ·have HE := Lib.hid (HN4.out (.inr rfl))
  have HWi := Lib.hid (within_any 96 #[.pointer (some ⟨w.heap.size + 1, 0, none⟩), .pointer (some ⟨w.heap.size, 0, none⟩), .pointer (some ⟨w.heap.size + 1 + 1, 0, none⟩)] (enters_of Tryz.func96 (by kernel_rfl) rfl) B a lv s (kidsV n.kids 0 { a with bits := bitsN n a.bits, href := linkN n a.href } (normP n.tag n.kids.length p) s) w3 HV3.out fun W hW hVW => inl_any HCS.out h HH.out n _ _ _ _ B w.heap.size (w.heap.size + 1) (w.heap.size + 1 + 1) a lv s W w0 S S' (HG3.out.keep (KeepT.of hW) hB3) hVW HAr.out.1 HAr.out.2.1 HAr.out.2.2.1 HAr.out.2.2.2)
  rw [← HE.out] at HWi
  go_wp2_with (go_at_call 95; refine HWi.out.mono ?_; rintro e w5 ⟨⟨u, rfl⟩, hv5, hk5⟩)
  go_returns
  exact ⟨⟨_, rfl⟩, hv5, (KeepT.of hx3).trans hk5⟩
 ·have HE := Lib.hid (HN3.out rfl)
  have HWi := Lib.hid (within_any 100 #[.pointer (some ⟨w.heap.size, 0, none⟩), .pointer (some ⟨w.heap.size + 1, 0, none⟩), .pointer (some ⟨w.heap.size + 1 + 1, 0, none⟩)] (enters_of Tryz.func100 (by kernel_rfl) rfl) B a lv s (lineE n a (normP n.tag n.kids.length p) s) w3 HV3.out fun W hW hVW => lin_any h HH.out n _ _ _ _ B w.heap.size (w.heap.size + 1) (w.heap.size + 1 + 1) a lv s W w0 S S' (HG3.out.keep (KeepT.of hW) hB3) hVW HAr.out.1 HAr.out.2.1 HAr.out.2.2.1 HAr.out.2.2.2)
  rw [← HE.out] at HWi
  go_wp2_with (go_at_call 95; refine HWi.out.mono ?_; rintro e w5 ⟨⟨u, rfl⟩, hv5, hk5⟩)
  go_returns
  exact ⟨⟨_, rfl⟩, hv5, (KeepT.of hx3).trans hk5⟩
 ·have HE := Lib.hid (HN2.out rfl)
  have HWi := Lib.hid (within_any 102 #[.pointer (some ⟨w.heap.size, 0, none⟩), .pointer (some ⟨w.heap.size + 1, 0, none⟩), .pointer (some ⟨w.heap.size + 1 + 1, 0, none⟩)] (enters_of Tryz.func102 (by kernel_rfl) rfl) B a lv s ({ (kidsV n.kids 0 (boxA n.tag a) (normP n.tag n.kids.length p) { s with opn := false }) with opn := false }) w3 HV3.out fun W hW hVW => bxx_any h HH.out n _ _ _ _ B w.heap.size (w.heap.size + 1) (w.heap.size + 1 + 1) a lv s W w0 S S' (HG3.out.keep (KeepT.of hW) hB3) hVW HAr.out.1 HAr.out.2.1 HAr.out.2.2.1 HAr.out.2.2.2 ⟨ht1, ht2⟩)
  rw [← HE.out] at HWi
  go_wp2_with (go_at_call 95; refine HWi.out.mono ?_; rintro e w5 ⟨⟨u, rfl⟩, hv5, hk5⟩)
  go_returns
  exact ⟨⟨_, rfl⟩, hv5, (KeepT.of hx3).trans hk5⟩
theorem view_all (HCs : CssP) : ∀ h, ViewAt h
 | 0 => node_step HCs 0 (kids_step 0 (fun _ e => by cases e))
 | h + 1 => node_step HCs (h + 1) (kids_step (h + 1) (fun h' e => by cases e; exact view_all HCs h))
end Go.Proofs.YtjpgffihafknlaaGreatDoor
