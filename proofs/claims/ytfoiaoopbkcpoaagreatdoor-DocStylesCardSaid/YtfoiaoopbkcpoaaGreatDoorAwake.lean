/- The walk of the law's 'awake': the chapter's examples. -/
import Derived.Test.YtfoiaoopbkcpoaaGreatDoorDocSplit
import Derived.Test.YtfoiaoopbkcpoaaGreatDoorDocPos
import Derived.Test.YtfoiaoopbkcpoaaGreatDoorRefPlace
namespace Go.Proofs.Qw
open Go.RowKit Go.Proofs.YtfoiaoopbkcpoaaGreatDoor
theorem slice_of_block {α : Type} {t : TypeId} {k : Nat} {enc : α → List Value} (hk : ∀ x, (enc x).length = k) {w : World} {S : Nat → Prop} {b : Nat} (xs : List α) (h : w.heap[b]? = some (.cells (xs.map enc).flatten.toArray t)) (hS : S b) (hm : xs.length ≤ maxLen) :
    SliceR t k (rdOf enc) true w S (.slice (some ⟨b, 0, none⟩) xs.length xs.length) xs := by
  have hl : (xs.map enc).flatten.length = xs.length * k := by rw [flatten_len (k := k) _ (by simp; intro a _; exact hk a), List.length_map]
  refine ⟨_, xs.length, rfl, Nat.le_refl _, hm, .inr ⟨b, 0, rfl, hS, (Array.getElem?_eq_some_iff.1 h).1, fun _ => ⟨_, h, by simp [hl]⟩, fun i x hx => ⟨enc x, hk x, rfl, fun j u hu => ?_⟩⟩⟩
  rw [cell_of_heap h, Nat.zero_add, List.getElem?_toArray]
  exact flatten_at (xs.map enc) i (enc x) j u (by simp; intro a _; exact hk a) (by rw [List.getElem?_map, hx]; rfl) hu
end Go.Proofs.Qw
namespace Go.Proofs.YtfoiaoopbkcpoaaGreatDoor
open Go.RowKit
open Go.Proofs.Qw

def lineA : Lin := ⟨0, [], 0, [⟨97, 0, []⟩, ⟨98, 0, []⟩]⟩
def lineB : Lin := ⟨0, [], 1, [⟨99, 0, []⟩]⟩
def docA : Doc := [lineA, lineB]
theorem docA_off : offD docA ⟨1, 0⟩ = (3, 0) := by decide
theorem docA_at : atD docA 2 = (⟨0, 2⟩, 0) := by decide
theorem docA_step : stepD docA ⟨0, 1⟩ (-3) = (⟨0, 0⟩, false) := by decide
theorem docA_delete : deleteD docA ⟨0, 1⟩ ⟨1, 0⟩ = ([⟨0, [], 0, [⟨97, 0, []⟩, ⟨99, 0, []⟩]⟩], 0) := by decide
theorem docA_split : splitD docA ⟨1, 1⟩ = ([lineA, lineB, ⟨0, [], 0, []⟩], ⟨2, 0⟩, 0) := by decide
theorem docA_set (s c : Int) : setD s c docA ⟨0, 2⟩ ⟨1, 0⟩ = ([], 7) := by
  unfold setD eachD
  rw [if_pos (by decide), if_pos (by decide)]
theorem docA_small : Small docA := ⟨by decide, by decide, by decide⟩
theorem docA_fits : Fits docA := ⟨by decide, by decide⟩

set_option maxRecDepth 100000 in
set_option maxHeartbeats 4000000 in
theorem awake_any (w : World) (he : EnvT w) : Calls Tryz.prog 11 #[] w fun e w' => e = .returned (.bool true) ∧ Below w.heap.size w w' := by
  obtain ⟨W1, hW1⟩ : ∃ W1, ((w.alloc (.cells #[.int .i32 97, .int .i64 0, .string ⟨#[]⟩, .int .i32 98, .int .i64 0, .string ⟨#[]⟩] 58)).alloc (.cells #[.int .i32 99, .int .i64 0, .string ⟨#[]⟩] 58)).alloc (.cells #[.int .i64 0, .slice none 0 0, .int .i64 0, .slice (some ⟨w.heap.size, 0, none⟩) 2 2, .int .i64 0, .slice none 0 0, .int .i64 1, .slice (some ⟨w.heap.size + 1, 0, none⟩) 1 1] 55) = W1 := ⟨_, rfl⟩
  have hB : Below w.heap.size w W1 := hW1 ▸ (((Below.refl _ _).alloc (Nat.le_refl _) _).alloc (by simp) _).alloc (by simp; omega) _
  have k0 : W1.heap[w.heap.size]? = some (.cells #[.int .i32 97, .int .i64 0, .string ⟨#[]⟩, .int .i32 98, .int .i64 0, .string ⟨#[]⟩] 58) := hW1 ▸ heap_old _ _ (heap_old _ _ (heap_new _ _ rfl))
  have k1 : W1.heap[w.heap.size + 1]? = some (.cells #[.int .i32 99, .int .i64 0, .string ⟨#[]⟩] 58) := hW1 ▸ heap_old _ _ (heap_new _ _ (by simp))
  have k2 : W1.heap[w.heap.size + 1 + 1]? = some (.cells #[.int .i64 0, .slice none 0 0, .int .i64 0, .slice (some ⟨w.heap.size, 0, none⟩) 2 2, .int .i64 0, .slice none 0 0, .int .i64 1, .slice (some ⟨w.heap.size + 1, 0, none⟩) 1 1] 55) := hW1 ▸ heap_new _ _ (by simp)
  have hd : LinsR W1 (fun _ => True) (.slice (some ⟨w.heap.size + 1 + 1, 0, none⟩) 2 2) docA :=
    DocR.read (doc_two (l := lineA) (m := lineB) k2 (SliceR.nil _ _ _ _ _ _) (slice_of_block (enc := encCel) (fun _ => rfl) lineA.cells k0 trivial (by decide)) (SliceR.nil _ _ _ _ _ _) (slice_of_block (enc := encCel) (fun _ => rfl) lineB.cells k1 trivial (by decide)) trivial)
  have he1 := he.below hB
  have HOff : Hid (∀ W, Below W1.heap.size W1 W → Calls Tryz.prog 25 #[.slice (some ⟨w.heap.size + 1 + 1, 0, none⟩) 2 2, .agg #[.int .i64 1, .int .i64 0]] W fun e w' => e = .returned (.tuple #[.int .i64 3, .int .i64 0]) ∧ Below W.heap.size W w') := Lib.hid fun W hW => by
    have := offset_any _ docA ⟨1, 0⟩ W W1 _ hd hW (by decide) (by decide)
    rwa [docA_off] at this
  have HAt : Hid (∀ W, Below W1.heap.size W1 W → Calls Tryz.prog 27 #[.slice (some ⟨w.heap.size + 1 + 1, 0, none⟩) 2 2, .int .i64 2] W fun e w' => e = .returned (.tuple #[.agg #[.int .i64 0, .int .i64 2], .int .i64 0]) ∧ Below W.heap.size W w') := Lib.hid fun W hW => by
    have := at_any _ docA 2 W W1 _ hd hW (by decide) (by decide)
    rwa [docA_at] at this
  have HSt : Hid (∀ W, Below W1.heap.size W1 W → Calls Tryz.prog 29 #[.slice (some ⟨w.heap.size + 1 + 1, 0, none⟩) 2 2, .agg #[.int .i64 0, .int .i64 1], .int .i64 (-3)] W fun e w' => e = .returned (.tuple #[.agg #[.int .i64 0, .int .i64 0], .bool false]) ∧ Below W.heap.size W w') := Lib.hid fun W hW => by
    have := step_any _ docA ⟨0, 1⟩ (-3) W W1 _ hd hW (by decide) (by decide) (by decide)
    rwa [docA_step] at this
  have HDe : Hid (∀ W, Below W1.heap.size W1 W → Calls Tryz.prog 49 #[.slice (some ⟨w.heap.size + 1 + 1, 0, none⟩) 2 2, .agg #[.int .i64 0, .int .i64 1], .agg #[.int .i64 1, .int .i64 0]] W (DocSaid ([⟨0, [], 0, [⟨97, 0, []⟩, ⟨99, 0, []⟩]⟩], 0) W)) := Lib.hid fun W hW => by
    have := docDelete_any _ docA ⟨0, 1⟩ ⟨1, 0⟩ W _ (hd.below (rdLin_stable _) hW) (he1.below hW) docA_small docA_fits
    rwa [docA_delete] at this
  have HSp : Hid (∀ W, Below W1.heap.size W1 W → Calls Tryz.prog 56 #[.slice (some ⟨w.heap.size + 1 + 1, 0, none⟩) 2 2, .agg #[.int .i64 1, .int .i64 1]] W fun e w' => ∃ v', e = .returned (.tuple #[v', .agg #[.int .i64 2, .int .i64 0], .int .i64 0]) ∧ DocR true w' (fun b => W.heap.size ≤ b) v' [lineA, lineB, ⟨0, [], 0, []⟩] ∧ Below W.heap.size W w') := Lib.hid fun W hW => by
    have := docSplit_any _ docA ⟨1, 1⟩ W _ (hd.below (rdLin_stable _) hW) (he1.below hW) docA_small docA_fits
    rw [docA_split] at this
    exact this
  have HSe : Hid (∀ W, Below W1.heap.size W1 W → Calls Tryz.prog 34 #[.slice (some ⟨w.heap.size + 1 + 1, 0, none⟩) 2 2, .agg #[.int .i64 0, .int .i64 2], .agg #[.int .i64 1, .int .i64 0], .int .i64 1, .int .i64 0] W (DocSaid ([], 7) W)) := Lib.hid fun W hW => by
    have := docSet_any _ docA ⟨0, 2⟩ ⟨1, 0⟩ 1 0 W _ (hd.below (rdLin_stable _) hW) (he1.below hW) docA_small docA_fits
    rwa [docA_set] at this
  have H1 := Lib.hid hB
  have hx0 : Below W1.heap.size W1 W1 := Below.refl _ _
  have hg := guardPos
  have hq1 := fun (w : World) => run_eql_pos ⟨0, 2⟩ ⟨0, 2⟩ w
  have hq2 := fun (w : World) => run_eql_pos ⟨0, 0⟩ ⟨0, 0⟩ w
  have hq3 := fun (w : World) => run_eql_pos ⟨2, 0⟩ ⟨2, 0⟩ w
  simp only [decide_true] at hq1 hq2 hq3
  clear hd he he1 k0 k1 k2 hB
  go_enter Tryz.func11, Tryz.ntmps11
  go_wp2_with (first
    | (go_at_call 25; refine (HOff.out _ hx0).mono ?_; rintro e w2 ⟨rfl, hb2⟩; have hx2 := below_from hx0 hb2)
    | (go_at_call 27; refine (HAt.out _ hx2).mono ?_; rintro e w3 ⟨rfl, hb3⟩; have hx3 := below_from hx2 hb3; have hx3a : ∀ X, Below W1.heap.size W1 (w3.alloc X) := fun X => hx3.alloc hx3.size X)
    | (go_at_call 29; refine (HSt.out _ (hx3a _)).mono ?_; rintro e w4 ⟨rfl, hb4⟩; have hx4 := below_from (hx3a _) hb4; have m3 := heap_below hb4 (heap_new _ _ rfl); have hx4a : ∀ X, Below W1.heap.size W1 (w4.alloc X) := fun X => hx4.alloc hx4.size X)
    | (go_at_call 49; refine (HDe.out _ (hx4a _)).mono ?_; rintro e w5 ⟨v5, rfl, hv5, hb5⟩; have hx5 := below_from (hx4a _) hb5; have m3a := heap_below hb5 (heap_old _ _ m3); have m4 := heap_below hb5 (heap_new _ _ rfl); obtain ⟨b5, o5, c5, la5, lc5, ca5, cc5, rfl, hc5, hm5, hA5, _, _, _⟩ := docOwn_at hv5 (i := 0) (l := ⟨0, [], 0, [⟨97, 0, []⟩, ⟨99, 0, []⟩]⟩) rfl; unfold maxLen at hm5; have HA5 := Lib.hid hA5; clear hA5 hv5)
    | (go_at_call 56; refine (HSp.out _ hx5).mono ?_; rintro e w6 ⟨v6, rfl, hv6, hb6⟩; have hx6 := below_from hx5 hb6; have hx6a : ∀ X, Below W1.heap.size W1 (w6.alloc X) := fun X => hx6.alloc hx6.size X; have m3b := heap_below hb6 m3a; have m4b := heap_below hb6 m4; obtain ⟨b6, o6, c6, la6, lc6, ca6, cc6, rfl, hc6, hm6, hA6, _, _, _⟩ := docOwn_at hv6 (i := 2) (l := ⟨0, [], 0, []⟩) rfl; unfold maxLen at hm6; have HA6 := Lib.hid hA6; clear hA6 hv6)
    | (go_at_call 34; refine (HSe.out _ (hx6a _)).mono ?_; rintro e w7 ⟨v7, rfl, _, hb7⟩; have hx7 := below_from (hx6a _) hb7; have hb67 : Below w6.heap.size w6 w7 := below_from ((Below.refl _ _).alloc (Nat.le_refl _) _) hb7; obtain ⟨r3, r3f⟩ := blk (heap_below hb67 m3b); obtain ⟨r4, r4f⟩ := blk (heap_below hb67 m4b); obtain ⟨r6, r6f⟩ := blk (heap_below hb7 (heap_new _ _ rfl)); have HB := HA5.out.below (below_from hb6 hb67); have HC := HA6.out.below hb67; have kl := HB.cells; have km := HC.kind; simp at kl km; clear HB HC))
  go_ret
  exact ⟨rfl, H1.out.trans (hx7.mono H1.out.size)⟩
end Go.Proofs.YtfoiaoopbkcpoaaGreatDoor
