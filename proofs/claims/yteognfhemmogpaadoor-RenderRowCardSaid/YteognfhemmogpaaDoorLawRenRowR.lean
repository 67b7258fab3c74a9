/- The walk of the law RenderRow. -/
import Derived.Test.YteognfhemmogpaaDoorRenAlikeLR
import Derived.Test.YteognfhemmogpaaDoorRenLongR
import Derived.Test.YteognfhemmogpaaDoorOpenMoreR
import Derived.BigQuiet
set_option linter.unusedVariables false
set_option linter.unusedSimpArgs false
namespace Go.Proofs.YteognfhemmogpaaDoor
open Go.RowKit
open Go.Proofs.Qw
attribute [local go_sem ↓] Go.wp_at_zero Go.wp_at_succ
set_option maxRecDepth 100000 in
set_option maxHeartbeats 4000000 in
theorem lawRenRow_any (v : Value) (l : List Cel) (w : World) (S : Nat → Prop) (h : CelsR false w S v l) (hs : l.length ≤ 70368744177664 ∧ ∀ c ∈ l, c.href.length ≤ 281474976710656) (he : EnvT w) :
  Calls Tryd.prog 3 #[v] w fun e w' => e = .returned (.bool true) ∧ Below w.heap.size w w' := by
 have HA : Hid (∀ W, Below w.heap.size w W → Calls Tryd.prog 6 #[] W fun e w' => e = .returned (.bool true) ∧ Below W.heap.size W w') := Lib.hid fun W hW => awake19_any W (he.below hW)
 obtain ⟨a, c, rfl, hc, hm, hx⟩ := cels_shape h
 have HX := Lib.hid hx
 have HH := Lib.hid h
 have HL : Hid (Calls Tryd.prog 5 #[.slice (some ⟨w.heap.size, 0, none⟩) 1 1] (w.alloc (.cells #[.int .i64 0, .slice none 0 0, .int .i64 0, .slice a l.length c] 26)) (LongSaid [⟨0, [], 0, l⟩] (w.alloc (.cells #[.int .i64 0, .slice none 0 0, .int .i64 0, .slice a l.length c] 26)))) := Lib.hid (by
  refine long19_any _ [⟨0, [], 0, l⟩] _ (fun _ => True) (SliceR.one_new w [.int .i64 0, .slice none 0 0, .int .i64 0, .slice a l.length c] rfl ⟨_, _, rfl, SliceR.nil _ _ _ _ _ _, ?_⟩ trivial) ?_
  ·exact (h.below (rdOf_stable _) ((Below.refl _ _).alloc (Nat.le_refl _) _)).stable (rdOf_stable _) (Keeps.refl _ _) (fun _ _ _ => trivial)
  ·intro x hx
   simp only [List.mem_singleton] at hx
   subst hx
   exact ⟨by simp, hs.1, hs.2⟩)
 obtain ⟨G, hG⟩ : ∃ G, gr rowK l = G := ⟨_, rfl⟩
 have HR : Hid (l.length ≤ 600 → ∀ X, Below w.heap.size w X → Calls Tryd.prog 7 #[.slice a l.length c] X fun e X' => ∃ ka kc, e = .returned (.slice ka G.length kc) ∧ NodsR true 26 X' (fun b => X.heap.size ≤ b) (.slice ka G.length kc) G ∧ Below X.heap.size X X') := Lib.hid fun hl X hX => (row_any _ l X w S h hX (by omega)).mono fun _ _ ⟨v', h1, h2, h3⟩ => by
  rw [hG] at h2
  obtain ⟨ka, kc, rfl⟩ := h2.slice
  exact ⟨ka, kc, h1, h2, h3⟩
 have HF : Hid (l.length ≤ 600 → ∀ X va vc, CelsR false X (fun _ => True) (.slice va l.length vc) l → Calls Tryd.prog 8 #[.slice va l.length vc] X fun e X' => ∃ na nc pv, e = .returned (.tuple #[.slice na G.length nc, pv]) ∧ NodsR true 8 X' (fun b => X.heap.size ≤ b) (.slice na G.length nc) G ∧ Below X.heap.size X X') := Lib.hid fun hl X va vc hv => (refRow_any _ l X _ hv (by omega)).mono fun _ _ ⟨na, nc, pa, pc, h1, h2, _, h3⟩ => by
  rw [hG] at h1 h2
  exact ⟨na, nc, _, h1, h2, h3⟩
 have HNo : Hid (∀ X ka kc na nc (S1 S2 : Nat → Prop), NodsR true 26 X S1 (.slice ka G.length kc) G → NodsR true 8 X S2 (.slice na G.length nc) G → Calls Tryd.prog 9 #[.slice ka G.length kc, .slice na G.length nc] X fun e X' => e = .returned (.bool true) ∧ Below X.heap.size X X') := Lib.hid fun X ka kc na nc S1 S2 h1 h2 => by
  have := refNodes_any 26 _ _ G G X _ _ (h1.read fun _ _ g => rdNod_read g) (nods_mono' (by omega) (h2.read fun _ _ g => rdNod_read g))
  rw [decide_eq_true rfl] at this
  exact this
 have hw0 : Below w.heap.size w w := Below.refl _ _
 have hc2 : c ≤ 9223372036854775807 := by unfold maxLen at hm; omega
 clear h hx hs he hm hG
 go_enter Tryd.func3, Tryd.ntmps3
 by_cases hl6 : 600 < l.length
 ·have hd : decide ((600 : Int) < (l.length : Int)) = true := decide_eq_true (by omega)
  have hd2 : decide (600 < l.length) = true := decide_eq_true hl6
  clear HL HR HF HNo
  go_wp2_with (go_at_call 6; refine (HA.out _ hw0).mono ?_; rintro e w4 ⟨rfl, hb4⟩)
  go_ret
  exact ⟨rfl, hb4⟩
 ·have hd : decide ((600 : Int) < (l.length : Int)) = false := decide_eq_false (by omega)
  have hd2 : decide (600 < l.length) = false := decide_eq_false hl6
  have hl : l.length ≤ 600 := by omega
  have HR2 := Lib.hid (HR.out hl)
  have HF2 := Lib.hid (HF.out hl)
  clear HR HF
  go_wp2_with fail
  refine HL.out.mono ?_
  rintro e w1 ⟨r, rfl, _, hb1⟩
  have hx1 : Below w.heap.size w w1 := below_from ((Below.refl w.heap.size w).alloc (Nat.le_refl _) _) hb1
  cases r
  ·have hsrc : CelsR false (w1.alloc (.cells #[] 37)) S (.slice a l.length c) l := HH.out.below (rdOf_stable _) (hx1.alloc hx1.size _)
   obtain ⟨news, n1, n2⟩ := srcCell hsrc
   have N1 := Lib.hid n1
   have N2 := Lib.hid n2
   clear n1 n2 hsrc hb1
   go_upto_region 10 with (first
    | (at_builtin; go_must (refine wpList_append_R _ rfl _ _ 22 22 rfl rowCell eltCell w1.heap.size (.slice (some ⟨w1.heap.size, 0, none⟩) 0 0) (.slice a l.length c) (xs := []) (ys := l) (news := news) rfl rfl (SliceR.empty _ _ _ _ _ _ _) (by simp) N1.out N2.out (by simp; omega) ?_); intro v2 w2 hR2 hB2 _ _; rw [List.nil_append] at hR2; obtain ⟨oa, oc, hve⟩ := hR2.slice; subst hve; have HR := Lib.hid hR2; have hx2 : Below w.heap.size w w2 := hx1.trans ((((Below.refl w1.heap.size w1).alloc (Nat.le_refl _) _).trans hB2).mono hx1.size); clear hR2 hB2)
    | (go_at_call 7; (with_reducible refine (HR2.out _ hx2).mono ?_); rintro e w3 ⟨ka, kc, rfl, hk3, hb3⟩; have HK3 := Lib.hid hk3; have HB3 := Lib.hid hb3; clear hk3 hb3)
    | (go_at_call 8; (with_reducible refine (HF2.out _ _ _ (((HR.out.read fun _ _ g => g).below (rdOf_stable _) HB3.out).stable (rdOf_stable _) (Keeps.refl _ _) (fun _ _ _ => trivial))).mono ?_); rintro e w4 ⟨na, nc, pv, rfl, hn4, hb4⟩; have HN4 := Lib.hid hn4; have HB4 := Lib.hid hb4; clear hn4 hb4)
    | (go_at_call 9; (with_reducible refine (HNo.out _ _ _ _ _ _ _ (HK3.out.below (rdNod_stable _ _) HB4.out) HN4.out).mono ?_); rintro e w5 ⟨rfl, hb5⟩; have HB5 := Lib.hid hb5; clear hb5)
    | (go_at_call 10; refine (spoil19_any 26 _ G w2.heap.size _ (HK3.out.below (rdNod_stable _ _) (below_from HB4.out HB5.out))).mono ?_; rintro e w6 ⟨⟨u, rfl⟩, hb6⟩; have HB6 := Lib.hid hb6; clear hb6))
   have HB26 : Hid (Below w2.heap.size w2 w6) := Lib.hid ((below_from (below_from HB3.out HB4.out) HB5.out).trans HB6.out)
   obtain ⟨oa', oc', e', hoc, hom, hox⟩ := cels_shape (HR.out.read fun _ _ g => g)
   cases e'
   have HOX := Lib.hid hox
   have HX2 := Lib.hid hx2
   unfold maxLen at hom
   clear hox hx2 HK3 HB3 HN4 HB4 HB5 HB6 HR HL HR2 HF2 HNo N1 N2
   go_loopw [7] (fun i wr => ∃ k : Nat, k ≤ l.length ∧ i = .int .i64 k ∧ Hid (Below w2.heap.size w2 wr)) (fun i _ => l.length - (intOf i).toNat)
   case atStart => exact ⟨0, Nat.zero_le _, rfl, HB26⟩
   case round =>
    obtain ⟨k, hk, rfl, HBr⟩ := hrel
    have hxr : Below w.heap.size w wr := below_from HX2.out HBr.out
    by_cases hlt : k < l.length
    ·obtain ⟨x, hx, _⟩ := getOf l k hlt
     obtain ⟨b, o, rfl, hz, c0, c1, c2⟩ := HX.out k x hx
     obtain ⟨b2, o2, rfl, hz2, d0, d1, d2⟩ := HOX.out k x hx
     have c0 := (hxr.cell hz).trans c0
     have c1 := (hxr.cell hz).trans c1
     have c2 := (hxr.cell hz).trans c2
     have d0 := (HBr.out.cell hz2).trans d0
     have d1 := (HBr.out.cell hz2).trans d1
     have d2 := (HBr.out.cell hz2).trans d2
     have i0 : (0 : Int) ≤ (k : Int) := Int.natCast_nonneg _
     have i1 : (k : Int) < (l.length : Int) := by omega
     have hg := guardCell
     have hne : ∀ w : World, (binOp .neq 37 (.agg #[.int .i32 x.r, .int .i64 x.bits, .string ⟨x.href.toArray⟩]) (.agg #[.int .i32 x.r, .int .i64 x.bits, .string ⟨x.href.toArray⟩])).run Tryd.prog w = .ok (.bool false) w := fun w => by
      rw [run_neq_cell, decide_eq_true rfl]
      rfl
     clear hx
     go_wp2_with fail
     go_quiet (fail)
     all_goals go_wp2_with fail
     go_roundw
     case rel => exact ⟨k + 1, hlt, by go_num, Lib.hid (drewN_below HBr.out)⟩
     case measure => simp [intOf]; omega
    ·obtain rfl : k = l.length := by omega
     go_wp2_with (go_at_call 6; refine (HA.out _ hxr).mono ?_; rintro e w7 ⟨rfl, hb7⟩)
     go_ret
     exact ⟨rfl, below_from hxr hb7⟩
  ·clear HR2 HF2 HNo
   go_wp2_with (go_at_call 6; refine (HA.out _ hx1).mono ?_; rintro e w4 ⟨rfl, hb4⟩)
   go_ret
   exact ⟨rfl, below_from hx1 hb4⟩
end Go.Proofs.YteognfhemmogpaaDoor
