/- The walk of the law RenderBack. -/
import Derived.Test.YtjpgffihafknlaaGreatDoorVwRowB
import Derived.Test.YtjpgffihafknlaaGreatDoorNodPlainB
import Derived.Test.YtjpgffihafknlaaGreatDoorVwPlcB
import Derived.Test.YtjpgffihafknlaaGreatDoorCssWalkB
import Derived.Test.YtjpgffihafknlaaGreatDoorVwRowsB
set_option linter.unusedVariables false
set_option linter.unusedSimpArgs false
namespace Go.Proofs.YtjpgffihafknlaaGreatDoor
open Go.RowKit
open Go.Proofs.Qw
attribute [local go_sem] Oper.semAt_some
theorem hrefs_fit {d : List Lin} (hm : mayD d = true) : ∀ l ∈ d, ∀ c ∈ l.cells, c.href.length ≤ 100000 := fun l hl c hc => by
 obtain ⟨_, _, _, _, _, _, _, h8⟩ := (ok_of_may hm).2 l hl
 rcases (h8 c hc).2.2.2 with e | e
 ·rw [e]; simp
 ·unfold targetF valueF valueB at e
  simp only [Bool.and_eq_true, decide_eq_true_eq] at e
  have h5 := e.1.2.1
  have : (⟨c.href.toArray⟩ : ByteArray).size = c.href.length := by show c.href.toArray.size = _; simp
  omega
set_option maxRecDepth 100000 in
set_option maxHeartbeats 4000000 in
theorem lawRenBack_any (v : Value) (d : Doc) (q : Ps) (w : World) (S : Nat → Prop) (h : LinsR w S v d) (hs : Sane d) (he : EnvT w) :
  Calls Tryz.prog 8 #[v, .agg #[.int .i64 q.line, .int .i64 q.col]] w fun e w' => e = .returned (.bool true) ∧ Below w.heap.size w w' := by
 have HL : Hid (∀ W, Below w.heap.size w W → Calls Tryz.prog 31 #[v] W (LongSaid d W)) := Lib.hid fun W hW => long19_any v d W S (h.below (rdLin_stable _) hW) hs
 have HA : Hid (∀ W, Below w.heap.size w W → Calls Tryz.prog 33 #[] W fun e w' => e = .returned (.bool true) ∧ Below W.heap.size W w') := Lib.hid fun W hW => awake19_any W (he.below hW)
 have HMy : Hid (Small d → ∀ W, Below w.heap.size w W → Calls Tryz.prog 32 #[v] W fun e w' => e = .returned (.bool (mayD d)) ∧ Below W.heap.size W w') := Lib.hid fun hsm W hW => refMay_any v d W S (h.below (rdLin_stable _) hW) hsm
 have HIs : Hid (∀ W, Below w.heap.size w W → Calls Tryz.prog 36 #[v, .agg #[.int .i64 q.line, .int .i64 q.col]] W fun e w' => e = .returned (.bool (isD d q)) ∧ Below W.heap.size W w') := Lib.hid fun W hW => refIs_any v d q W S (h.below (rdLin_stable _) hW)
 have HHo : Hid (mayD d = true → ∀ W, Below w.heap.size w W → Calls Tryz.prog 34 #[v] W fun e w' => ∃ ka kc, e = .returned (.tuple #[.agg #[.int .i64 1, .slice none 0 0, .string ⟨#[]⟩, .slice ka (hostN d).kids.length kc], .int .i64 0]) ∧ NodsR false 40 w' (fun b => W.heap.size ≤ b) (.slice ka (hostN d).kids.length kc) (hostN d).kids ∧ Below W.heap.size W w') := Lib.hid fun hm W hW => (host_yes v d W w S h (he.below hW) hW hm).mono fun _ _ ⟨k', h1, h2, h3⟩ => by
  have h2' := h2.read (R' := rdNod false 40) (fun _ _ g => rdNod_read g)
  obtain ⟨ka, kc, rfl⟩ := h2'.slice
  exact ⟨ka, kc, h1, h2', h3⟩
 have HFit : Hid (mayD d = true → AvN (hostN d) ∧ capM (hostN d) ≤ 3900000 ∧ FitN (hostN d)) := Lib.hid fun hm => by
  obtain ⟨h1, h2⟩ := host_cap hm (hrefs_fit hm)
  exact ⟨h2, by omega, hostF_fit h1⟩
 have HVn : Hid (mayD d = true → viewN (hostN d) = (d, 0)) := Lib.hid fun hm => by
  obtain ⟨g1, g2⟩ := ok_of_may hm
  obtain ⟨g3, g4⟩ := may_iffH hm
  have g5 : longV ⟨d, (d.map (·.cells.length)).sum, false, 0, ⟨0, 0⟩⟩ = false := by
   unfold longV
   unfold sizeD at g4
   rw [decide_eq_false (by simp only; omega), decide_eq_false (by simp only; omega)]
   rfl
  unfold viewN
  rw [view_host g1 g2, if_neg (by rw [g5]; simp)]
 have HVw : Hid (mayD d = true → ∀ W W0 ka kc, Below w.heap.size w W0 → Below W0.heap.size W0 W → NodsR false 40 W0 (fun _ => True) (.slice ka (hostN d).kids.length kc) (hostN d).kids → Calls Tryz.prog 12 #[.agg #[.int .i64 1, .slice none 0 0, .string ⟨#[]⟩, .slice ka (hostN d).kids.length kc]] W fun e w' => ∃ va vc, e = .returned (.tuple #[.slice va d.length vc, .int .i64 0]) ∧ LinsR w' (fun _ => True) (.slice va d.length vc) d ∧ Below W.heap.size W w') := Lib.hid fun hm W W0 ka kc hW0 hW hk => (view_any cssPV 40 (hostN d) (.slice none 0 0) _ W W0 _ (SliceR.nil _ _ _ _ _ _) hk (he.below hW0) hW (HFit.out hm).1 (HFit.out hm).2.1).mono fun _ _ ⟨va, vc, g1, g2, g3⟩ => by
  rw [HVn.out hm] at g1 g2
  exact ⟨va, vc, g1, (DocR.read g2).stable (rdLin_stable _) (Keeps.refl _ _) (fun _ _ _ => trivial), g3⟩
 have HPn : Hid (mayD d = false ∨ isD d q = false → Small d → ∀ W, Below w.heap.size w W → Calls Tryz.prog 35 #[v, .agg #[.int .i64 q.line, .int .i64 q.col]] W fun e w' => e = .returned (.tuple #[.agg #[.slice none 0 0, .int .i64 0], .int .i64 1]) ∧ Below W.heap.size W w') := Lib.hid fun hm hsm W hW => point_no v d q W w S h (he.below hW) hW hsm hm
 have HPy : Hid (mayD d = true → isD d q = true → ∀ W, Below w.heap.size w W → Calls Tryz.prog 35 #[v, .agg #[.int .i64 q.line, .int .i64 q.col]] W fun e w' => ∃ qa qc, e = .returned (.tuple #[.agg #[.slice qa (pointN d q).1.length qc, .int .i64 (pointN d q).2], .int .i64 0]) ∧ IntsR false w' (fun _ => True) (.slice qa (pointN d q).1.length qc) (pointN d q).1 ∧ Below W.heap.size W w') := Lib.hid fun hm hi W hW => (point_yes v d q W w S h (he.below hW) hW hm hi).mono fun _ _ ⟨qa, qc, g1, g2, g3⟩ => ⟨qa, qc, g1, g2.stable (rdOf_stable _) (Keeps.refl _ _) (fun _ _ _ => trivial), g3⟩
 have HBk : Hid (mayD d = true → isD d q = true → (reachN (hostN d) (pointN d q).1).1 = (pointN d q).1.length ∧ ((reachN (hostN d) (pointN d q).1).2.tag = 0 ∨ (pointN d q).2 ≤ (reachN (hostN d) (pointN d q).1).2.kids.length) ∧ posN (hostN d) (pointN d q) = (q, 0) ∧ 0 ≤ (pointN d q).2) := Lib.hid fun hm hi => point_back hm hi
 have HSa : Hid (∀ X va vc, Below w.heap.size w X → LinsR X (fun _ => True) (.slice va d.length vc) d → Calls Tryz.prog 14 #[.slice va d.length vc, v] X fun e X' => e = .returned (.bool true) ∧ Below X.heap.size X X') := Lib.hid fun X va vc hX hv => by
  have := refSame_any _ _ d d X _ _ hv (h.below (rdLin_stable _) hX)
  rw [decide_eq_true rfl] at this
  exact this
 have HE := Lib.hid he
 obtain ⟨va, vc, rfl⟩ := h.slice
 obtain ⟨m, hm⟩ : ∃ m, mayD d = m := ⟨_, rfl⟩
 obtain ⟨W1, hW1⟩ : ∃ W1, w.alloc (.cells #[.int .i64 q.line, .int .i64 q.col] 46) = W1 := ⟨_, rfl⟩
 have hB : Below w.heap.size w W1 := hW1 ▸ (Below.refl _ _).alloc (Nat.le_refl _) _
 have z3 : W1.heap[w.heap.size]? = some (.cells #[.int .i64 q.line, .int .i64 q.col] 46) := hW1 ▸ heap_new _ _ rfl
 have HB := Lib.hid hB
 have HZ3 := Lib.hid z3
 have HW1 := Lib.hid hW1
 have HMd := Lib.hid hm
 rw [hm] at HMy HHo HFit HVw HPn HPy HBk
 clear h hs he hB z3 hW1 hm HVn
 go_enter Tryz.func8, Tryz.ntmps8
 go_wp2_with fail
 rw [HW1.out]
 refine (HL.out _ HB.out).mono ?_
 rintro e w1 ⟨r, rfl, hr, hb1⟩
 have hx1 := below_from HB.out hb1
 cases r
 ·have hsm := (hr rfl).small
  clear hr
  cases m
  ·replace HMy := Lib.hid (HMy.out hsm)
   clear HHo HFit HVw HPn HPy HBk HSa HIs HL
   go_wp2_with (first
    | (go_at_call 32; refine (HMy.out _ hx1).mono ?_; rintro e w2 ⟨rfl, hb2⟩; have hx2 := below_from hx1 hb2)
    | (go_at_call 33; refine (HA.out _ hx2).mono ?_; rintro e w3 ⟨rfl, hbw3⟩))
   go_ret
   exact ⟨rfl, below_from hx2 hbw3⟩
  ·replace HMy := Lib.hid (HMy.out hsm)
   replace HHo := Lib.hid (HHo.out rfl)
   replace HVw := Lib.hid (HVw.out rfl)
   replace HPy := Lib.hid (HPy.out rfl)
   replace HBk := Lib.hid (HBk.out rfl)
   replace HFit := Lib.hid (HFit.out rfl)
   replace HPn : Hid (isD d q = false → _) := Lib.hid fun hi => HPn.out (.inr hi) hsm
   obtain ⟨ii, hii⟩ : ∃ i, isD d q = i := ⟨_, rfl⟩
   rw [hii] at HIs HPy HPn HBk
   generalize hnl : (hostN d).kids.length = hl at *
   clear hii HL
   go_upto_if 21 with (go_at_call 32; refine (HMy.out _ hx1).mono ?_; rintro e w2 ⟨rfl, hb2⟩; have hx2 := below_from hx1 hb2; have hy2 := below_from hb1 hb2)
   go_upto_region 4 with (go_at_call 34; refine (HHo.out _ hx2).mono ?_; rintro e w3 ⟨ka, kc, rfl, hk3, hb3⟩; have hx3 := below_from hx2 hb3; have hy3 := below_from hy2 hb3)
   obtain ⟨V3, hV3⟩ : ∃ W, w3.alloc (.cells #[.int .i64 1, .slice none 0 0, .string ⟨#[]⟩, .slice ka hl kc] 25) = W := ⟨_, rfl⟩
   rw [hV3]
   have hbV : Below w3.heap.size w3 V3 := hV3 ▸ (Below.refl _ _).alloc (Nat.le_refl _) _
   have z5 : V3.heap[w3.heap.size]? = some (.cells #[.int .i64 1, .slice none 0 0, .string ⟨#[]⟩, .slice ka hl kc] 25) := hV3 ▸ heap_new _ _ rfl
   have hxV := below_from hx3 hbV
   have hyV := below_from hy3 hbV
   have HK3 : Hid (NodsR false 40 V3 (fun _ => True) (.slice ka hl kc) (hostN d).kids) := Lib.hid ((hk3.below (rdNod_stable _ _) hbV).stable (rdNod_stable _ _) (Keeps.refl _ _) (fun _ _ _ => trivial))
   have HZ5 := Lib.hid z5
   have HZ3V : Hid (V3.heap[w.heap.size]? = some (.cells #[.int .i64 q.line, .int .i64 q.col] 46)) := Lib.hid (heap_below hyV HZ3.out)
   have HXV := Lib.hid hxV
   obtain ⟨r5, s5⟩ := blk z5
   have hvm := (SliceR.len hk3).2
   clear hV3 hbV z5 hx3 hy3 hx2 hy2 hb2 hb3 hk3 hyV
   go_upto_if 29 with fail
   go_upto_if 42 with (first
    | (go_at_call 12; refine (HVw.out V3 V3 ka kc hxV (Below.refl _ _) HK3.out).mono ?_; rintro e w4 ⟨ma, mc, rfl, hd4, hb4⟩; have hx4 := below_from hxV hb4)
    | (go_at_call 14; refine (HSa.out _ ma mc hx4 hd4).mono ?_; rintro e w5 ⟨rfl, hb5⟩; have hx5 := below_from hx4 hb5; have hv5 := below_from hb4 hb5; obtain ⟨q5, g5⟩ := blk (heap_below hv5 HZ3V.out)))
   cases ii
   ·replace HPn := Lib.hid (HPn.out rfl)
    go_upto_if 52 with (first
     | (go_at_call 35; refine (HPn.out _ hx5).mono ?_; rintro e w6 ⟨rfl, hb6⟩; have hx6 := below_from hx5 hb6; have hv6 := below_from hv5 hb6; obtain ⟨q6, g6⟩ := blk1F (heap_below hv6 HZ3V.out))
     | (go_at_call 36; refine (HIs.out _ (hx6.alloc hx6.size _)).mono ?_; rintro e w7 ⟨rfl, hb7⟩; have hx7 := below_from (hx6.alloc hx6.size _) hb7))
    go_wp2_with (go_at_call 33; refine (HA.out _ hx7).mono ?_; rintro e w8 ⟨rfl, hbw8⟩)
    go_ret
    exact ⟨rfl, below_from hx7 hbw8⟩
   ·replace HPy := Lib.hid (HPy.out rfl)
    obtain ⟨hr1, hr2, hr3, hr4⟩ := HBk.out rfl
    skip
    go_upto_if 52 with (first
     | (go_at_call 35; refine (HPy.out _ hx5).mono ?_; rintro e w6 ⟨qa, qc, rfl, hp6, hb6⟩; have hx6 := below_from hx5 hb6; have hv6 := below_from hv5 hb6; obtain ⟨q6, g6⟩ := blk1F (heap_below hv6 HZ3V.out))
     | (go_at_call 36; refine (HIs.out _ (hx6.alloc hx6.size _)).mono ?_; rintro e w7 ⟨rfl, hb7⟩; have hx7 := below_from (hx6.alloc hx6.size _) hb7; have hv7 := below_from (hv6.alloc hv6.size _) hb7; have z9 := heap_below hb7 (heap_new w6 _ rfl); have hp7 := (hp6.below (rdOf_stable _) ((Below.refl _ _).alloc (Nat.le_refl _) _)).below (rdOf_stable _) hb7))
    obtain ⟨t9, u9⟩ := blk z9
    obtain ⟨t5, u5⟩ := blk (heap_below hv7 HZ5.out)
    have HR := Lib.hid (reach_any 40 (hostN d) (.slice none 0 0) _ _ (pointN d q).1 w7 w7 _ _ (SliceR.nil _ _ _ _ _ _) (HK3.out.below (rdNod_stable _ _) hv7) (Below.refl _ _) hp7 HFit.out.2.2)
    generalize reachN (hostN d) (pointN d q).1 = rr at *
    obtain ⟨rn, nd⟩ := rr
    replace hr1 : rn = (pointN d q).1.length := hr1
    replace hr2 : nd.tag = 0 ∨ (pointN d q).2 ≤ nd.kids.length := hr2
    replace HR : Hid (Calls Tryz.prog 21 #[.agg #[.int .i64 1, .slice none 0 0, .string ⟨#[]⟩, .slice ka hl kc], .slice qa (pointN d q).1.length qc] w7 (ReachOut 40 (rn, nd) w7)) := HR
    subst hr1
    have HP2 := Lib.hid (And.intro hr2 hr3)
    clear hr2 hr3 hr4
    go_upto_region 13 with (go_at_call 21; refine HR.out.mono ?_; rintro e w8 ⟨ra, rc, sa, sc, rfl, hr8, hs8, hb8⟩)
    obtain ⟨V8, hV8⟩ : ∃ W, w8.alloc (.cells #[.int .i64 nd.tag, .slice ra nd.attrs.length rc, .string ⟨nd.text.toArray⟩, .slice sa nd.kids.length sc] 25) = W := ⟨_, rfl⟩
    rw [hV8]
    have hbV8 : Below w8.heap.size w8 V8 := hV8 ▸ (Below.refl _ _).alloc (Nat.le_refl _) _
    have z12 : V8.heap[w8.heap.size]? = some (.cells #[.int .i64 nd.tag, .slice ra nd.attrs.length rc, .string ⟨nd.text.toArray⟩, .slice sa nd.kids.length sc] 25) := hV8 ▸ heap_new _ _ rfl
    have hb78 := below_from hb8 hbV8
    have hx8 := below_from hx7 hb78
    have hv8 := below_from hv7 hb78
    have z98 := heap_below hb78 z9
    have hp8 := hp7.below (rdOf_stable _) hb78
    have HPo : Hid (Calls Tryz.prog 19 #[.agg #[.int .i64 1, .slice none 0 0, .string ⟨#[]⟩, .slice ka hl kc], .agg #[.slice qa (pointN d q).1.length qc, .int .i64 (pointN d q).2]] V8 fun e w' => e = .returned (.tuple #[.agg #[.int .i64 q.line, .int .i64 q.col], .int .i64 0]) ∧ Below V8.heap.size V8 w') := Lib.hid (by
     have hh := pos_any cssPV 40 (hostN d) (.slice none 0 0) (.slice ka hl kc) (.slice qa (pointN d q).1.length qc) (pointN d q).1 (pointN d q).2 V8 V8 _ _ (SliceR.nil _ _ _ _ _ _) (HK3.out.below (rdNod_stable _ _) hv8) (HE.out.below hx8) (Below.refl _ _) HFit.out.1 HFit.out.2.1 hp8
     rw [show ((pointN d q).1, (pointN d q).2) = pointN d q from rfl, HP2.out.2] at hh
     exact hh)
    obtain ⟨e5, f5'⟩ := blk (heap_below hv8 HZ5.out)
    obtain ⟨e9, f9'⟩ := blk z98
    have hsk := (SliceR.len hs8).2
    have hpk := (SliceR.len hp7).2
    clear hV8 t9 u9 t5 u5 HR hr8 q6 g6
    go_upto_region 14 with (go_at_call 19; refine HPo.out.mono ?_; rintro e w9 ⟨rfl, hb9⟩)
    obtain ⟨V9, hV9⟩ : ∃ W, w9.alloc (.cells #[.int .i64 q.line, .int .i64 q.col] 46) = W := ⟨_, rfl⟩
    rw [hV9]
    have hb89 : Below V8.heap.size V8 V9 := below_from hb9 (hV9 ▸ (Below.refl _ _).alloc (Nat.le_refl _) _)
    have z13 : V9.heap[w9.heap.size]? = some (.cells #[.int .i64 q.line, .int .i64 q.col] 46) := hV9 ▸ heap_new _ _ rfl
    have hx9 := below_from hx8 hb89
    obtain ⟨m1, n1⟩ := blk z13
    obtain ⟨m2, n2⟩ := blk (heap_below hb89 z12)
    obtain ⟨m3, n3⟩ := blk (heap_below hb89 z98)
    obtain ⟨m4, n4⟩ := blk (heap_below (below_from hv8 hb89) HZ3V.out)
    have heq : ∀ X, (binOp .eql 46 (.agg #[.int .i64 q.line, .int .i64 q.col]) (.agg #[.int .i64 q.line, .int .i64 q.col])).run Tryz.prog X = .ok (.bool true) X := fun X => by rw [run_eql_pos, decide_eq_true rfl]
    obtain ⟨hsk1, hsk2⟩ := hsk
    obtain ⟨hpk1, hpk2⟩ := hpk
    unfold maxLen at hsk2 hpk2
    clear hV9 e5 f5' e9 f9' z12 z98 z13 z9
    by_cases htag : nd.tag = 0
    ·have ht : (nd.tag == 0) = true := by simpa using htag
     clear htag
     go_wp2_with (go_at_call 33; refine (HA.out _ hx9).mono ?_; rintro e w10 ⟨rfl, hbw10⟩)
     go_ret
     exact ⟨rfl, below_from hx9 hbw10⟩
    ·have ht : (nd.tag == 0) = false := by simpa using htag
     have hk : decide ((pointN d q).2 ≤ (nd.kids.length : Int)) = true := decide_eq_true (HP2.out.1.resolve_left htag)
     clear htag
     go_wp2_with (go_at_call 33; refine (HA.out _ hx9).mono ?_; rintro e w10 ⟨rfl, hbw10⟩)
     go_ret
     exact ⟨rfl, below_from hx9 hbw10⟩
 ·clear hr HHo HFit HVw HPn HPy HBk HSa HIs HL HMy
  go_wp2_with (go_at_call 33; refine (HA.out _ hx1).mono ?_; rintro e w3 ⟨rfl, hbw3⟩)
  go_ret
  exact ⟨rfl, below_from hx1 hbw3⟩
end Go.Proofs.YtjpgffihafknlaaGreatDoor
