/- The walks of Insert of cells, of the code and of the reference. -/
import Derived.Test.YtfoiaoopbkcpoaaGreatDoorRefCells
import Derived.Test.YtfoiaoopbkcpoaaGreatDoorReplace
import Derived.Test.YtfoiaoopbkcpoaaGreatDoorRefOwn
import Derived.Test.YtfoiaoopbkcpoaaGreatDoorLineSplit
namespace Go.Proofs.YtfoiaoopbkcpoaaGreatDoor
open Go.RowKit
open Go.Proofs.Qw
def insertC (cs : List Cel) (p : Nat) (more : List Cel) : List Cel := cs.take p ++ more ++ cs.drop p
/-- What stands behind a place of a row, and how the slice of it is written. -/
theorem cels_from {w : World} {S : Nat → Prop} {a : Option Addr} {n c p : Nat} {xs : List Cel} (h : CelsR false w S (.slice a n c) xs) (hp : p ≤ xs.length) :
    ∃ X, CelsR false w S (.slice X (xs.length - p) (c - p)) (xs.drop p) ∧ ((c = p ∧ a = X) ∨ (¬ c = p ∧ a.map (·.add (p * 3)) = X)) := by
  obtain ⟨_, h2, h3⟩ := h.len
  have := SliceR.part h (i := p) (j := xs.length) (m := c) hp (Nat.le_refl _) h2 (Nat.le_refl _)
  rw [List.take_of_length_le (by rw [List.length_drop]; omega)] at this
  by_cases hcp : c = p
  · exact ⟨a, by simpa only [sliced, if_pos hcp] using this, .inl ⟨hcp, rfl⟩⟩
  · exact ⟨_, by simpa only [sliced, if_neg hcp] using this, .inr ⟨hcp, rfl⟩⟩

set_option maxRecDepth 100000 in
set_option maxHeartbeats 4000000 in
theorem cellsInsert_any (ca vb : Option Addr) (cc vc p : Nat) (cs more : List Cel) (w w0 w1 : World) (S S2 : Nat → Prop) (o1 o2 : Bool) (h' : CelsR o1 w0 S (.slice ca cs.length cc) cs) (hm' : CelsR o2 w1 S2 (.slice vb more.length vc) more)
    (h0 : Below w0.heap.size w0 w) (h1 : Below w1.heap.size w1 w) (hp : p ≤ cs.length) (hs : cs.length ≤ 1000000) (hs2 : more.length ≤ 1000000) :
    Calls Tryz.prog 97 #[.slice ca cs.length cc, .int .i64 p, .slice vb more.length vc] w (CellsSaid (insertC cs p more) 0 w) := by
  have h : CelsR false w (fun _ => True) (.slice ca cs.length cc) cs := SliceR.stable (rdOf_stable _) (SliceR.read (fun _ _ h => h) h') (.all h0) (fun _ _ _ => trivial)
  have hm : CelsR false w (fun _ => True) (.slice vb more.length vc) more := SliceR.stable (rdOf_stable _) (SliceR.read (fun _ _ h => h) hm') (.all h1) (fun _ _ _ => trivial)
  have HC1 := Lib.hid (cellsSpan_any _ cs p p w (fun _ => True) false h)
  have hsp : spanC cs.length p p = true := by unfold spanC; simp; omega
  rw [hsp] at HC1
  obtain ⟨_, hccl, hccm⟩ := h.len
  obtain ⟨X, hX, hcq⟩ := cels_from h hp
  have hHC : ∀ W, Below w.heap.size w W → ∀ g, W.heap[g]? = some (.cells #[.slice ca p cc, .slice vb more.length vc, .slice X (cs.length - p) (cc - p)] 46) → Calls Tryz.prog 91 #[.slice (some ⟨g, 0, none⟩) 3 3] W fun e w' => ∃ v', e = .returned v' ∧ CelsR true w' (fun b => W.heap.size ≤ b) v' (insertC cs p more) ∧ Below W.heap.size W w' := by
    intro W hW g hg
    have ha := (SliceR.below (rdOf_stable _) h hW).take (i := p) hp
    have hb := SliceR.below (rdOf_stable _) hm hW
    have hc := SliceR.below (rdOf_stable _) hX hW
    have := concatCell_any g 3 #[.slice ca p cc, .slice vb more.length vc, .slice X (cs.length - p) (cc - p)] [cs.take p, more, cs.drop p] W (fun _ => True) hg (fun k xs hk => by
      match k, hk with
      | 0, hk => cases hk; exact ⟨_, rfl, ha⟩
      | 1, hk => cases hk; exact ⟨_, rfl, hb⟩
      | 2, hk => cases hk; exact ⟨_, rfl, hc⟩) (by simp [lens]; omega) (by simp) rfl
    simpa [insertC] using this
  have HC := Lib.hid hHC
  have hBd : ∀ X, Below w.heap.size w (w.alloc X).drew := fun X => ((Below.refl _ _).alloc (Nat.le_refl _) X).drew
  unfold maxLen at hccm
  have u0 : (0 : Int) ≤ (p : Int) := Int.natCast_nonneg _
  have u1 : (p : Int) ≤ (cc : Int) := by omega
  have u2 : (p : Int) ≤ (cs.length : Int) := by omega
  clear h hm h' hm' hX hHC hsp
  rcases hcq with ⟨rfl, rfl⟩ | ⟨hcq, rfl⟩
  · rw [Nat.sub_self, show cs.length - cc = 0 by omega] at HC
    go_enter Tryz.func97, Tryz.ntmps97
    go_wp2_with (go_at_call 126; refine HC1.out.mono ?_; rintro e w2 ⟨rfl, rfl⟩)
    go_region_held3 (fun _ => True) (trivial) ((go_at_call 91; refine (HC.out _ (hBd _) _ (heap_new _ _ rfl)).mono ?_; rintro e w5 ⟨v5, rfl, hv5, hb5⟩; obtain ⟨a5, c5, hv5e⟩ := hv5.slice; subst hv5e))
    go_wp2_with fail
    go_ret2
    exact ⟨_, rfl, SliceR.stable (rdOf_stable _) hv5 (Keeps.refl _ _) (fun b h _ => Nat.le_trans (hBd _).size h), below_from (hBd _) hb5⟩
  · skip
    go_enter Tryz.func97, Tryz.ntmps97
    go_wp2_with (go_at_call 126; refine HC1.out.mono ?_; rintro e w2 ⟨rfl, rfl⟩)
    go_region_held3 (fun _ => True) (trivial) ((go_at_call 91; refine (HC.out _ (hBd _) _ (heap_new _ _ rfl)).mono ?_; rintro e w5 ⟨v5, rfl, hv5, hb5⟩; obtain ⟨a5, c5, hv5e⟩ := hv5.slice; subst hv5e))
    go_wp2_with fail
    go_ret2
    exact ⟨_, rfl, SliceR.stable (rdOf_stable _) hv5 (Keeps.refl _ _) (fun b h _ => Nat.le_trans (hBd _).size h), below_from (hBd _) hb5⟩

set_option maxRecDepth 100000 in
set_option maxHeartbeats 4000000 in
theorem refCInsert_any (ca vb : Option Addr) (cc vc p : Nat) (cs more : List Cel) (w w0 w1 : World) (S S2 : Nat → Prop) (o1 o2 : Bool) (h' : CelsR o1 w0 S (.slice ca cs.length cc) cs) (hm' : CelsR o2 w1 S2 (.slice vb more.length vc) more)
    (h0 : Below w0.heap.size w0 w) (h1 : Below w1.heap.size w1 w) (hp : p ≤ cs.length) (hs : cs.length ≤ 1000000) (hs2 : more.length ≤ 1000000) :
    Calls Tryz.prog 98 #[.slice ca cs.length cc, .int .i64 p, .slice vb more.length vc] w (CellsSaid (insertC cs p more) 0 w) := by
  have h : CelsR false w (fun _ => True) (.slice ca cs.length cc) cs := SliceR.stable (rdOf_stable _) (SliceR.read (fun _ _ h => h) h') (.all h0) (fun _ _ _ => trivial)
  have hm : CelsR false w (fun _ => True) (.slice vb more.length vc) more := SliceR.stable (rdOf_stable _) (SliceR.read (fun _ _ h => h) hm') (.all h1) (fun _ _ _ => trivial)
  have HC1 := Lib.hid (refCSpan_any _ cs p p w (fun _ => True) false h)
  have hsp : spanC cs.length p p = true := by unfold spanC; simp; omega
  rw [hsp] at HC1
  obtain ⟨_, hccl, hccm⟩ := h.len
  obtain ⟨X, hX, hcq⟩ := cels_from h hp
  have HO := Lib.hid (refOwnC_any _ (cs.take p) false w (fun _ => True) (h.take hp) (by rw [List.length_take]; omega))
  have HM := Lib.hid hm
  have HXX : Hid (∀ W, Below w.heap.size w W → Src Tryz.prog 3 46 (.slice X (cs.length - p) (cc - p)) (cs.drop p).length ((cs.drop p).flatMap encCel) W) := Lib.hid fun W hW => SliceR.src_flat rowCell eltCell (SliceR.below (rdOf_stable _) hX hW)
  have HMM : Hid (∀ W, Below w.heap.size w W → Src Tryz.prog 3 46 (.slice vb more.length vc) more.length (more.flatMap encCel) W) := Lib.hid fun W hW => SliceR.src_flat rowCell eltCell (SliceR.below (rdOf_stable _) hm hW)
  have hl1 : (cs.take p).length + more.length ≤ 100000000 := by rw [List.length_take]; omega
  have hl2 : (cs.take p ++ more).length + (cs.drop p).length ≤ 100000000 := by rw [List.length_append, List.length_take, List.length_drop]; omega
  have HLL := Lib.hid (And.intro hl1 hl2)
  unfold maxLen at hccm
  have u0 : (0 : Int) ≤ (p : Int) := Int.natCast_nonneg _
  have u1 : (p : Int) ≤ (cc : Int) := by omega
  have u2 : (p : Int) ≤ (cs.length : Int) := by omega
  clear h hm h' hm' hX hsp hl1 hl2
  rcases hcq with ⟨rfl, rfl⟩ | ⟨hcq, rfl⟩
  · rw [Nat.sub_self, show cs.length - cc = 0 by omega] at HXX
    go_enter Tryz.func98, Tryz.ntmps98
    go_wp2_with (first
      | (go_at_call 83; refine HC1.out.mono ?_; rintro e w2 ⟨rfl, rfl⟩)
      | (go_at_call 50; refine HO.out.mono ?_; rintro e w3 ⟨v3, rfl, hv3, hb3⟩; have HV3 := Lib.hid hv3; have hz3 := hb3.size; clear hv3)
      | (at_builtin; refine wpList_append_R _ rfl _ _ 46 46 rfl rowCell eltCell w2.heap.size v3 (.slice vb more.length vc) (xs := cs.take cc) (ys := more) (news := more.flatMap encCel) rfl rfl HV3.out hz3 (HMM.out _ hb3) (flatCell _ _ _) HLL.out.1 ?_; intro v4 w4 hR4 hB4 _ _; have HV4 := Lib.hid hR4; have hb4 := hb3.trans hB4; have hz4 := hb4.size; clear hR4 hB4)
      | (at_builtin; refine wpList_append_R _ rfl _ _ 46 46 rfl rowCell eltCell w2.heap.size v4 (.slice ca 0 0) (xs := cs.take cc ++ more) (ys := cs.drop cc) (news := (cs.drop cc).flatMap encCel) rfl rfl HV4.out hz4 (HXX.out _ hb4) (flatCell _ _ _) HLL.out.2 ?_; intro v5 w5 hR5 hB5 _ _; have HV5 := Lib.hid hR5; have hb5 := hb4.trans hB5; clear hR5 hB5))
    go_ret2
    exact ⟨_, rfl, HV5.out, hb5⟩
  · skip
    go_enter Tryz.func98, Tryz.ntmps98
    go_wp2_with (first
      | (go_at_call 83; refine HC1.out.mono ?_; rintro e w2 ⟨rfl, rfl⟩)
      | (go_at_call 50; refine HO.out.mono ?_; rintro e w3 ⟨v3, rfl, hv3, hb3⟩; have HV3 := Lib.hid hv3; have hz3 := hb3.size; clear hv3)
      | (at_builtin; refine wpList_append_R _ rfl _ _ 46 46 rfl rowCell eltCell w2.heap.size v3 (.slice vb more.length vc) (xs := cs.take p) (ys := more) (news := more.flatMap encCel) rfl rfl HV3.out hz3 (HMM.out _ hb3) (flatCell _ _ _) HLL.out.1 ?_; intro v4 w4 hR4 hB4 _ _; have HV4 := Lib.hid hR4; have hb4 := hb3.trans hB4; have hz4 := hb4.size; clear hR4 hB4)
      | (at_builtin; refine wpList_append_R _ rfl _ _ 46 46 rfl rowCell eltCell w2.heap.size v4 (.slice (ca.map (·.add (p * 3))) (cs.length - p) (cc - p)) (xs := cs.take p ++ more) (ys := cs.drop p) (news := (cs.drop p).flatMap encCel) rfl rfl HV4.out hz4 (HXX.out _ hb4) (flatCell _ _ _) HLL.out.2 ?_; intro v5 w5 hR5 hB5 _ _; have HV5 := Lib.hid hR5; have hb5 := hb4.trans hB5; clear hR5 hB5))
    go_ret2
    exact ⟨_, rfl, HV5.out, hb5⟩
end Go.Proofs.YtfoiaoopbkcpoaaGreatDoor
