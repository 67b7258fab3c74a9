/- The walk of the law DocPlaces. -/
import Derived.Test.YtfoiaoopbkcpoaaGreatDoorRefStep
import Derived.Test.YtfoiaoopbkcpoaaGreatDoorIs
import Derived.Test.YtfoiaoopbkcpoaaGreatDoorAwake
import Derived.Test.YtfoiaoopbkcpoaaGreatDoorRefMay
namespace Go.Proofs.YtfoiaoopbkcpoaaGreatDoor
open Go.RowKit
open Go.Proofs.Qw
theorem run_neq_pos (p q : Ps) (w : World) : (binOp .neq 24 (.agg #[.int .i64 p.line, .int .i64 p.col]) (.agg #[.int .i64 q.line, .int .i64 q.col])).run Tryz.prog w = .ok (.bool (!decide (p = q))) w := by
  have h1 : Tryz.prog.stoodInHeld 24 = false := by kernel_rfl
  have h2 : Tryz.prog.underlying 24 = some (.struct (Tryz.prog.fieldsOf 24)) := by kernel_rfl
  rw [run_neq_struct, show (10000:Nat) = 9999 + 1 from rfl, run_equalIn_agg _ _ _ _ _ h2 h1]
  simp [Tryz.underlying24, go_sem]
  obtain ⟨a, b⟩ := p
  obtain ⟨d, e⟩ := q
  simp only [Ps.mk.injEq]
  by_cases e1 : a = d <;> by_cases e2 : b = e <;> simp [e1, e2]

set_option maxRecDepth 100000 in
set_option maxHeartbeats 8000000 in
theorem lawPlaces_any (v : Value) (d : Doc) (p q : Ps) (n by' : Int) (w : World) (S : Nat → Prop) (h : LinsR w S v d) (s : Sane d) (he : EnvT w) (bn : -9223372036854775808 ≤ n ∧ n ≤ 9223372036854775807) (bb : -9223372036854775808 ≤ by' ∧ by' ≤ 9223372036854775807) :
    Calls Tryz.prog 3 #[v, posV p, posV q, .int .i64 n, .int .i64 by'] w fun e w' => e = .returned (.bool true) ∧ Below w.heap.size w w' := by
  obtain ⟨W1, hW1, hB, hz, k0, k1⟩ := two_pos w (.int .i64 p.line) (.int .i64 p.col) (.int .i64 q.line) (.int .i64 q.col)
  have hv := h.below (rdLin_stable _) hB
  have he1 := he.below hB
  have HL := Lib.hid (long_any v d W1 S hv s)
  have HA : Hid (∀ W, Below W1.heap.size W1 W → Calls Tryz.prog 11 #[] W fun e w' => e = .returned (.bool true) ∧ Below W.heap.size W w') := Lib.hid fun W hW => awake_any W (he1.below hW)
  have HB : Hid (∀ W, Below W1.heap.size W1 W → W.heap[w.heap.size]? = some (.cells #[.int .i64 p.line, .int .i64 p.col] 24) ∧ W.heap[w.heap.size + 1]? = some (.cells #[.int .i64 q.line, .int .i64 q.col] 24)) := Lib.hid fun W hW => ⟨heap_below hW k0, heap_below hW k1⟩
  have HV := Lib.hid hv
  have HE := Lib.hid he1
  have HP : Hid (∀ p : Ps, posV p = .agg #[.int .i64 p.line, .int .i64 p.col]) := Lib.hid fun _ => rfl
  have H1 := Lib.hid hB
  have hs1 := hB.size
  obtain ⟨va, vc, rfl⟩ := h.slice
  obtain ⟨m, hm⟩ : ∃ m, mayD d = m := ⟨_, rfl⟩
  obtain ⟨sz, hsz⟩ : ∃ z : Int, (sizeD d : Int) = z := ⟨_, rfl⟩
  obtain ⟨E, hE⟩ : ∃ E, endD d = E := ⟨_, rfl⟩
  obtain ⟨i, hi⟩ : ∃ i, isD d p = i := ⟨_, rfl⟩
  obtain ⟨C, hC⟩ : ∃ C, clampD d p = C := ⟨_, rfl⟩
  obtain ⟨c, hc⟩ : ∃ c, cmpP p q = c := ⟨_, rfl⟩
  obtain ⟨o1, ho1⟩ : ∃ x, (offD d p).1 = x := ⟨_, rfl⟩
  obtain ⟨o2, ho2⟩ : ∃ x, (offD d p).2 = x := ⟨_, rfl⟩
  obtain ⟨a1, ha1⟩ : ∃ x, (atD d n).1 = x := ⟨_, rfl⟩
  obtain ⟨a2, ha2⟩ : ∃ x, (atD d n).2 = x := ⟨_, rfl⟩
  obtain ⟨t1, ht1⟩ : ∃ x, (stepD d p by').1 = x := ⟨_, rfl⟩
  obtain ⟨t2, ht2⟩ : ∃ x, (stepD d p by').2 = x := ⟨_, rfl⟩
  have hw0 : Below W1.heap.size W1 W1 := Below.refl _ _
  obtain ⟨p0, f0⟩ := blk k0
  obtain ⟨p1, f1⟩ := blk k1
  clear h he hv he1 k0 k1 hB s
  rw [HP.out p, HP.out q]
  go_enter Tryz.func3, Tryz.ntmps3
  go_wp2_with fail
  refine HL.out.mono ?_
  rintro e w2 ⟨r, rfl, hr, hb2⟩
  cases r
  case' true =>
    go_wp2_with fail
    refine (HA.out _ hb2).mono ?_
    rintro e w3 ⟨rfl, hb3⟩
    go_wp2_with fail
    go_ret
    exact ⟨rfl, H1.out.trans ((below_from hb2 hb3).mono hs1)⟩
  have HS := Lib.hid (hr rfl)
  clear hr
  have HO := Lib.hid (refOwnD_any _ d w2 S (HV.out.below (rdLin_stable _) hb2) HS.out.fits)
  go_wp2_with fail
  refine HO.out.mono ?_
  rintro e w3 ⟨v3, rfl, hv3, hb3⟩
  have hx3 := below_from hb2 hb3
  obtain ⟨va3, vc3, rfl⟩ := hv3.slice
  obtain ⟨S3, hS3⟩ : ∃ S : Nat → Prop, (fun b => w2.heap.size ≤ b) = S := ⟨_, rfl⟩
  rw [hS3] at hv3
  have hV3 : ∀ W, Below w3.heap.size w3 W → LinsR W S3 (.slice va3 d.length vc3) d := fun W hW => (DocR.read hv3).below (rdLin_stable _) hW
  have HV3 := Lib.hid hV3
  have HMay : Hid (∀ W, Below W1.heap.size W1 W → Calls Tryz.prog 13 #[.slice va d.length vc] W fun e w' => e = .returned (.bool m) ∧ Below W.heap.size W w') := Lib.hid fun W hW => by
    have := docMay_any _ d W W1 S HV.out (HE.out.below hW) hW HS.out.small
    rw [hm] at this
    exact this
  have HSize : Hid (∀ W, Below W1.heap.size W1 W → Calls Tryz.prog 15 #[.slice va d.length vc] W fun e w' => e = .returned (.int .i64 sz) ∧ Below W.heap.size W w') := Lib.hid fun W hW => by
    have := size_any _ d W W1 S HV.out hW HS.out.small.1
    rw [hsz] at this
    exact this
  have HEnd : Hid (∀ W, Below W1.heap.size W1 W → Calls Tryz.prog 17 #[.slice va d.length vc] W fun e w' => e = .returned (.agg #[.int .i64 E.line, .int .i64 E.col]) ∧ Below W.heap.size W w') := Lib.hid fun W hW => by
    have := end_any _ d W W1 S HV.out hW
    rw [hE] at this
    exact this
  have HIs : Hid (∀ W, Below W1.heap.size W1 W → Calls Tryz.prog 19 #[.slice va d.length vc, .agg #[.int .i64 p.line, .int .i64 p.col]] W fun e w' => e = .returned (.bool i) ∧ Below W.heap.size W w') := Lib.hid fun W hW => by
    have := is_any _ d p W W1 S HV.out hW
    rw [hi] at this
    exact this
  have HClamp : Hid (∀ W, Below W1.heap.size W1 W → Calls Tryz.prog 21 #[.slice va d.length vc, .agg #[.int .i64 p.line, .int .i64 p.col]] W fun e w' => e = .returned (.agg #[.int .i64 C.line, .int .i64 C.col]) ∧ Below W.heap.size W w') := Lib.hid fun W hW => by
    have := clamp_any _ d p W W1 S HV.out hW
    rw [hC] at this
    exact this
  have HCmp : Hid (∀ W, Below W1.heap.size W1 W → Calls Tryz.prog 23 #[.agg #[.int .i64 p.line, .int .i64 p.col], .agg #[.int .i64 q.line, .int .i64 q.col]] W fun e w' => e = .returned (.int .i64 c) ∧ Below W.heap.size W w') := Lib.hid fun W hW => by
    have := cmp_any p q W
    rw [hc] at this
    exact this
  have HOffset : Hid (∀ W, Below W1.heap.size W1 W → Calls Tryz.prog 25 #[.slice va d.length vc, .agg #[.int .i64 p.line, .int .i64 p.col]] W fun e w' => e = .returned (.tuple #[.int .i64 o1, .int .i64 o2]) ∧ Below W.heap.size W w') := Lib.hid fun W hW => by
    have := offset_any _ d p W W1 S HV.out hW HS.out.small.1 HS.out.small.2.1
    rw [ho1, ho2] at this
    exact this
  have HAt : Hid (∀ W, Below W1.heap.size W1 W → Calls Tryz.prog 27 #[.slice va d.length vc, .int .i64 n] W fun e w' => e = .returned (.tuple #[.agg #[.int .i64 a1.line, .int .i64 a1.col], .int .i64 a2]) ∧ Below W.heap.size W w') := Lib.hid fun W hW => by
    have := at_any _ d n W W1 S HV.out hW HS.out.small.1 bn
    rw [ha1, ha2] at this
    exact this
  have HStep : Hid (∀ W, Below W1.heap.size W1 W → Calls Tryz.prog 29 #[.slice va d.length vc, .agg #[.int .i64 p.line, .int .i64 p.col], .int .i64 by'] W fun e w' => e = .returned (.tuple #[.agg #[.int .i64 t1.line, .int .i64 t1.col], .bool t2]) ∧ Below W.heap.size W w') := Lib.hid fun W hW => by
    have := step_any _ d p by' W W1 S HV.out hW HS.out.small.1 HS.out.small.2.1 bb
    rw [ht1, ht2] at this
    exact this
  have RMay : Hid (∀ W, Below w3.heap.size w3 W → Calls Tryz.prog 14 #[.slice va3 d.length vc3] W fun e w' => e = .returned (.bool m) ∧ Below W.heap.size W w') := Lib.hid fun W hW => by
    have := refMay_any _ d W S3 (hV3 W hW) HS.out.small
    rw [hm] at this
    exact this
  have RSize : Hid (∀ W, Below w3.heap.size w3 W → Calls Tryz.prog 16 #[.slice va3 d.length vc3] W fun e w' => e = .returned (.int .i64 sz) ∧ Below W.heap.size W w') := Lib.hid fun W hW => by
    have := refSize_any _ d W S3 (hV3 W hW) HS.out.small.1
    rw [hsz] at this
    exact this
  have REnd : Hid (∀ W, Below w3.heap.size w3 W → Calls Tryz.prog 18 #[.slice va3 d.length vc3] W fun e w' => e = .returned (.agg #[.int .i64 E.line, .int .i64 E.col]) ∧ Below W.heap.size W w') := Lib.hid fun W hW => by
    have := refEnd_any _ d W S3 (hV3 W hW)
    rw [hE] at this
    exact this
  have RIs : Hid (∀ W, Below w3.heap.size w3 W → Calls Tryz.prog 20 #[.slice va3 d.length vc3, .agg #[.int .i64 p.line, .int .i64 p.col]] W fun e w' => e = .returned (.bool i) ∧ Below W.heap.size W w') := Lib.hid fun W hW => by
    have := refIs_any _ d p W S3 (hV3 W hW)
    rw [hi] at this
    exact this
  have RClamp : Hid (∀ W, Below w3.heap.size w3 W → Calls Tryz.prog 22 #[.slice va3 d.length vc3, .agg #[.int .i64 p.line, .int .i64 p.col]] W fun e w' => e = .returned (.agg #[.int .i64 C.line, .int .i64 C.col]) ∧ Below W.heap.size W w') := Lib.hid fun W hW => by
    have := refClamp_any _ d p W S3 (hV3 W hW)
    rw [hC] at this
    exact this
  have RCmp : Hid (∀ W, Below w3.heap.size w3 W → Calls Tryz.prog 24 #[.agg #[.int .i64 p.line, .int .i64 p.col], .agg #[.int .i64 q.line, .int .i64 q.col]] W fun e w' => e = .returned (.int .i64 c) ∧ Below W.heap.size W w') := Lib.hid fun W hW => by
    have := refCmp_any p q W
    rw [hc] at this
    exact this
  have ROffset : Hid (∀ W, Below w3.heap.size w3 W → Calls Tryz.prog 26 #[.slice va3 d.length vc3, .agg #[.int .i64 p.line, .int .i64 p.col]] W fun e w' => e = .returned (.tuple #[.int .i64 o1, .int .i64 o2]) ∧ Below W.heap.size W w') := Lib.hid fun W hW => by
    have := refOffset_any _ d p W S3 (hV3 W hW) HS.out.small.1 HS.out.small.2.1
    rw [ho1, ho2] at this
    exact this
  have RAt : Hid (∀ W, Below w3.heap.size w3 W → Calls Tryz.prog 28 #[.slice va3 d.length vc3, .int .i64 n] W fun e w' => e = .returned (.tuple #[.agg #[.int .i64 a1.line, .int .i64 a1.col], .int .i64 a2]) ∧ Below W.heap.size W w') := Lib.hid fun W hW => by
    have := refAt_any _ d n W S3 (hV3 W hW) HS.out.small.1 HS.out.small.2.1
    rw [ha1, ha2] at this
    exact this
  have RStep : Hid (∀ W, Below w3.heap.size w3 W → Calls Tryz.prog 30 #[.slice va3 d.length vc3, .agg #[.int .i64 p.line, .int .i64 p.col], .int .i64 by'] W fun e w' => e = .returned (.tuple #[.agg #[.int .i64 t1.line, .int .i64 t1.col], .bool t2]) ∧ Below W.heap.size W w') := Lib.hid fun W hW => by
    have := refStep_any _ d p by' W S3 (hV3 W hW) HS.out.small.1 HS.out.small.2.1 bb
    rw [ht1, ht2] at this
    exact this
  have HOwn : Hid (∀ W, Below W1.heap.size W1 W → Calls Tryz.prog 32 #[.slice va d.length vc] W fun e w' => ∃ v', e = .returned v' ∧ DocR true w' (fun b => W.heap.size ≤ b) v' d ∧ Below W.heap.size W w') := Lib.hid fun W hW => docOwn_any _ d W W1 S HV.out hW HS.out.fits
  have HSame : Hid (∀ W, Below w3.heap.size w3 W → Calls Tryz.prog 33 #[.slice va d.length vc, .slice va3 d.length vc3] W fun e w' => e = .returned (.bool true) ∧ Below W.heap.size W w') := Lib.hid fun W hW => by
    have := refSame_any _ _ d d W S S3 (HV.out.below (rdLin_stable _) (below_from hx3 hW)) (hV3 W hW)
    rwa [decide_eq_true rfl] at this
  have hm1 : (m != m) = false := bne_self_eq_false m
  have hsz1 : (sz != sz) = false := bne_self_eq_false sz
  have hi1 : (i != i) = false := bne_self_eq_false i
  have hc1 : (c != c) = false := bne_self_eq_false c
  have ho1' : (o1 == o1) = true := beq_self_eq_true o1
  have ho2' : (o2 == o2) = true := beq_self_eq_true o2
  have ha2' : (a2 == a2) = true := beq_self_eq_true a2
  have ht2' : (t2 == t2) = true := beq_self_eq_true t2
  have hqE : ∀ w, (binOp .neq 24 (.agg #[.int .i64 E.line, .int .i64 E.col]) (.agg #[.int .i64 E.line, .int .i64 E.col])).run Tryz.prog w = .ok (.bool false) w := fun w => by rw [run_neq_pos, decide_eq_true rfl]; rfl
  have hqC : ∀ w, (binOp .neq 24 (.agg #[.int .i64 C.line, .int .i64 C.col]) (.agg #[.int .i64 C.line, .int .i64 C.col])).run Tryz.prog w = .ok (.bool false) w := fun w => by rw [run_neq_pos, decide_eq_true rfl]; rfl
  have hqa : ∀ w, (binOp .eql 24 (.agg #[.int .i64 a1.line, .int .i64 a1.col]) (.agg #[.int .i64 a1.line, .int .i64 a1.col])).run Tryz.prog w = .ok (.bool true) w := fun w => by rw [run_eql_pos, decide_eq_true rfl]
  have hqt : ∀ w, (binOp .eql 24 (.agg #[.int .i64 t1.line, .int .i64 t1.col]) (.agg #[.int .i64 t1.line, .int .i64 t1.col])).run Tryz.prog w = .ok (.bool true) w := fun w => by rw [run_eql_pos, decide_eq_true rfl]
  have hgp := guardPos
  have hs3 := hx3.size
  have hsw3 : w.heap.size + 2 ≤ w3.heap.size := by omega
  have HS2 : Hid (∀ X : World, Below W1.heap.size W1 X → (fun w' => w'.cell? ⟨w.heap.size, 0, none⟩ = some (.int .i64 p.line) ∧ w'.cell? ⟨w.heap.size, 1, none⟩ = some (.int .i64 p.col) ∧ w'.cell? ⟨w.heap.size + 1, 0, none⟩ = some (.int .i64 q.line) ∧ w'.cell? ⟨w.heap.size + 1, 1, none⟩ = some (.int .i64 q.col)) X) := Lib.hid fun X hX => by
    have h1 := (blk (HB.out X hX).1).1
    have h2 := (blk (HB.out X hX).2).1
    exact ⟨h1 0, h1 1, h2 0, h2 1⟩
  clear hm hsz hE hi hC hc ho1 ho2 ha1 ha2 ht1 ht2 hv3 hV3 hS3 HO HL p0 f0 p1 f1 hW1
  go_wp2_with fail
  have hb0 : Below w3.heap.size w3 w3.drew := (Below.refl _ _).drew
  refine wp_region_noPanic ?_
  refine wp_region_held_drew (S := (fun w' => w'.cell? ⟨w.heap.size, 0, none⟩ = some (.int .i64 p.line) ∧ w'.cell? ⟨w.heap.size, 1, none⟩ = some (.int .i64 p.col) ∧ w'.cell? ⟨w.heap.size + 1, 0, none⟩ = some (.int .i64 q.line) ∧ w'.cell? ⟨w.heap.size + 1, 1, none⟩ = some (.int .i64 q.col))) (by kernel_rfl) (HS2.out _ (below_from hx3 hb0)) (fun hHeld => ?_)
  obtain ⟨X0, hX0⟩ : ∃ X, w3.drew = X := ⟨_, rfl⟩
  rw [hX0] at hb0 hHeld ⊢
  clear hX0
  refine wpAnyH_take (i := 0) (v := ?_) (by simp only [List.getElem?_toArray, List.getElem?_cons_zero]; rfl) (by kernel_rfl) (by kernel_rfl) (by kernel_rfl) (fun _ _ _ h => h) (Or.inl ⟨by rfl, ?_⟩) (by assumption) ?_
  rotate_left 1
  · intro w hSw; (try dsimp only at hSw); go_simp; (first | done | with_reducible rfl)
  try simp only [Act.put, List.setIfInBounds_toArray, List.set_cons_zero, List.set_cons_succ]
  refine wpAnyH_take (i := 2) (v := ?_) (by simp only [List.getElem?_toArray, List.getElem?_cons_succ, List.getElem?_cons_zero]; rfl) (by kernel_rfl) (by kernel_rfl) (by kernel_rfl) (fun _ _ _ h => h) (Or.inl ⟨by rfl, ?_⟩) (by assumption) ?_
  rotate_left 1
  · intro w hSw; (try dsimp only at hSw); go_simp; (first | done | with_reducible rfl)
  try simp only [Act.put, List.setIfInBounds_toArray, List.set_cons_zero, List.set_cons_succ]
  refine wpAnyH_ready (rs := [1]) (by kernel_rfl) (by simp) ?_
  refine AllReadyH.cons (by simp only [List.getElem?_toArray, List.getElem?_cons_succ, List.getElem?_cons_zero]; rfl) (fun K hK => ?_) AllReadyH.nil
  go_simp
  refine (HMay.out _ (below_from hx3 hb0)).mono ?_
  rintro e X1 ⟨rfl, hst⟩
  have hb1 := below_from hb0 hst
  clear hHeld hst
  refine hK.out _ _ (HS2.out _ (below_from hx3 hb1)) (fun hHeld => ?_)
  clear hK K hb0
  try simp only [Act.put, List.setIfInBounds_toArray, List.set_cons_zero, List.set_cons_succ]
  refine wpAnyH_ready (rs := [3]) (by kernel_rfl) (by simp) ?_
  refine AllReadyH.cons (by simp only [List.getElem?_toArray, List.getElem?_cons_succ, List.getElem?_cons_zero]; rfl) (fun K hK => ?_) AllReadyH.nil
  go_simp
  refine (RMay.out _ hb1).mono ?_
  rintro e X2 ⟨rfl, hst⟩
  have hb2 := below_from hb1 hst
  clear hHeld hst
  refine hK.out _ _ (HS2.out _ (below_from hx3 hb2)) (fun hHeld => ?_)
  clear hK K hb1
  try simp only [Act.put, List.setIfInBounds_toArray, List.set_cons_zero, List.set_cons_succ]
  refine wpAnyH_take (i := 4) (v := ?_) (by simp only [List.getElem?_toArray, List.getElem?_cons_succ, List.getElem?_cons_zero]; rfl) (by kernel_rfl) (by kernel_rfl) (by kernel_rfl) (fun _ _ _ h => h) (Or.inl ⟨by rfl, ?_⟩) (by assumption) ?_
  rotate_left 1
  · intro w hSw; (try dsimp only at hSw); go_simp; (first | done | with_reducible rfl)
  try simp only [Act.put, List.setIfInBounds_toArray, List.set_cons_zero, List.set_cons_succ]
  refine wpAnyH_take (i := 5) (v := ?_) (by simp only [List.getElem?_toArray, List.getElem?_cons_succ, List.getElem?_cons_zero]; rfl) (by kernel_rfl) (by kernel_rfl) (by kernel_rfl) (fun _ _ _ h => h) (Or.inl ⟨by rfl, ?_⟩) (by assumption) ?_
  rotate_left 1
  · intro w hSw; (try dsimp only at hSw); go_simp; (first | done | with_reducible rfl)
  try simp only [Act.put, List.setIfInBounds_toArray, List.set_cons_zero, List.set_cons_succ]
  refine wpAnyH_take (i := 6) (v := ?_) (by simp only [List.getElem?_toArray, List.getElem?_cons_succ, List.getElem?_cons_zero]; rfl) (by kernel_rfl) (by kernel_rfl) (by kernel_rfl) (fun _ _ _ h => h) (Or.inl ⟨by rfl, ?_⟩) (by assumption) ?_
  rotate_left 1
  · intro w hSw; (try dsimp only at hSw); go_simp; (first | done | with_reducible rfl)
  try simp only [Act.put, List.setIfInBounds_toArray, List.set_cons_zero, List.set_cons_succ]
  refine wpAnyH_take (i := 8) (v := ?_) (by simp only [List.getElem?_toArray, List.getElem?_cons_succ, List.getElem?_cons_zero]; rfl) (by kernel_rfl) (by kernel_rfl) (by kernel_rfl) (fun _ _ _ h => h) (Or.inl ⟨by rfl, ?_⟩) (by assumption) ?_
  rotate_left 1
  · intro w hSw; (try dsimp only at hSw); go_simp; (first | done | with_reducible rfl)
  try simp only [Act.put, List.setIfInBounds_toArray, List.set_cons_zero, List.set_cons_succ]
  refine wpAnyH_ready (rs := [7]) (by kernel_rfl) (by simp) ?_
  refine AllReadyH.cons (by simp only [List.getElem?_toArray, List.getElem?_cons_succ, List.getElem?_cons_zero]; rfl) (fun K hK => ?_) AllReadyH.nil
  go_simp
  refine (HSize.out _ (below_from hx3 hb2)).mono ?_
  rintro e X3 ⟨rfl, hst⟩
  have hb3 := below_from hb2 hst
  clear hHeld hst
  refine hK.out _ _ (HS2.out _ (below_from hx3 hb3)) (fun hHeld => ?_)
  clear hK K hb2
  try simp only [Act.put, List.setIfInBounds_toArray, List.set_cons_zero, List.set_cons_succ]
  refine wpAnyH_ready (rs := [9]) (by kernel_rfl) (by simp) ?_
  refine AllReadyH.cons (by simp only [List.getElem?_toArray, List.getElem?_cons_succ, List.getElem?_cons_zero]; rfl) (fun K hK => ?_) AllReadyH.nil
  go_simp
  refine (RSize.out _ hb3).mono ?_
  rintro e X4 ⟨rfl, hst⟩
  have hb4 := below_from hb3 hst
  clear hHeld hst
  refine hK.out _ _ (HS2.out _ (below_from hx3 hb4)) (fun hHeld => ?_)
  clear hK K hb3
  try simp only [Act.put, List.setIfInBounds_toArray, List.set_cons_zero, List.set_cons_succ]
  refine wpAnyH_take (i := 10) (v := ?_) (by simp only [List.getElem?_toArray, List.getElem?_cons_succ, List.getElem?_cons_zero]; rfl) (by kernel_rfl) (by kernel_rfl) (by kernel_rfl) (fun _ _ _ h => h) (Or.inl ⟨by rfl, ?_⟩) (by assumption) ?_
  rotate_left 1
  · intro w hSw; (try dsimp only at hSw); go_simp; (first | done | with_reducible rfl)
  try simp only [Act.put, List.setIfInBounds_toArray, List.set_cons_zero, List.set_cons_succ]
  refine wpAnyH_take (i := 11) (v := ?_) (by simp only [List.getElem?_toArray, List.getElem?_cons_succ, List.getElem?_cons_zero]; rfl) (by kernel_rfl) (by kernel_rfl) (by kernel_rfl) (fun _ _ _ h => h) (Or.inl ⟨by rfl, ?_⟩) (by assumption) ?_
  rotate_left 1
  · intro w hSw; (try dsimp only at hSw); go_simp; (first | done | with_reducible rfl)
  try simp only [Act.put, List.setIfInBounds_toArray, List.set_cons_zero, List.set_cons_succ]
  refine wpAnyH_take (i := 12) (v := ?_) (by simp only [List.getElem?_toArray, List.getElem?_cons_succ, List.getElem?_cons_zero]; rfl) (by kernel_rfl) (by kernel_rfl) (by kernel_rfl) (fun _ _ _ h => h) (Or.inl ⟨by rfl, ?_⟩) (by assumption) ?_
  rotate_left 1
  · intro w hSw; (try dsimp only at hSw); go_simp; (first | done | with_reducible rfl)
  try simp only [Act.put, List.setIfInBounds_toArray, List.set_cons_zero, List.set_cons_succ]
  refine wpAnyH_take (i := 13) (v := ?_) (by simp only [List.getElem?_toArray, List.getElem?_cons_succ, List.getElem?_cons_zero]; rfl) (by kernel_rfl) (by kernel_rfl) (by kernel_rfl) (fun _ _ _ h => h) (Or.inl ⟨by rfl, ?_⟩) (by assumption) ?_
  rotate_left 1
  · intro w hSw; (try dsimp only at hSw); go_simp; (first | done | with_reducible rfl)
  try simp only [Act.put, List.setIfInBounds_toArray, List.set_cons_zero, List.set_cons_succ]
  refine wpAnyH_take (i := 15) (v := ?_) (by simp only [List.getElem?_toArray, List.getElem?_cons_succ, List.getElem?_cons_zero]; rfl) (by kernel_rfl) (by kernel_rfl) (by kernel_rfl) (fun _ _ _ h => h) (Or.inl ⟨by rfl, ?_⟩) (by assumption) ?_
  rotate_left 1
  · intro w hSw; (try dsimp only at hSw); go_simp; (first | done | with_reducible rfl)
  try simp only [Act.put, List.setIfInBounds_toArray, List.set_cons_zero, List.set_cons_succ]
  refine wpAnyH_ready (rs := [14]) (by kernel_rfl) (by simp) ?_
  refine AllReadyH.cons (by simp only [List.getElem?_toArray, List.getElem?_cons_succ, List.getElem?_cons_zero]; rfl) (fun K hK => ?_) AllReadyH.nil
  go_simp
  refine (HEnd.out _ (below_from hx3 hb4)).mono ?_
  rintro e X5 ⟨rfl, hst⟩
  have hb5 := below_from hb4 hst
  clear hHeld hst
  refine hK.out _ _ (HS2.out _ (below_from hx3 hb5)) (fun hHeld => ?_)
  clear hK K hb4
  try simp only [Act.put, List.setIfInBounds_toArray, List.set_cons_zero, List.set_cons_succ]
  refine wpAnyH_ready (rs := [16]) (by kernel_rfl) (by simp) ?_
  refine AllReadyH.cons (by simp only [List.getElem?_toArray, List.getElem?_cons_succ, List.getElem?_cons_zero]; rfl) (fun K hK => ?_) AllReadyH.nil
  go_simp
  refine (REnd.out _ hb5).mono ?_
  rintro e X6 ⟨rfl, hst⟩
  have hb6 := below_from hb5 hst
  clear hHeld hst
  refine hK.out _ _ (HS2.out _ (below_from hx3 hb6)) (fun hHeld => ?_)
  clear hK K hb5
  try simp only [Act.put, List.setIfInBounds_toArray, List.set_cons_zero, List.set_cons_succ]
  refine wpAnyH_take (i := 17) (v := ?_) (by simp only [List.getElem?_toArray, List.getElem?_cons_succ, List.getElem?_cons_zero]; rfl) (by kernel_rfl) (by kernel_rfl) (by kernel_rfl) (fun _ _ _ h => h) (Or.inl ⟨by rfl, ?_⟩) (by assumption) ?_
  rotate_left 1
  · intro w hSw; (try dsimp only at hSw); go_simp; (first | done | with_reducible rfl)
  try simp only [Act.put, List.setIfInBounds_toArray, List.set_cons_zero, List.set_cons_succ]
  refine wpAnyH_take (i := 18) (v := ?_) (by simp only [List.getElem?_toArray, List.getElem?_cons_succ, List.getElem?_cons_zero]; rfl) (by kernel_rfl) (by kernel_rfl) (by kernel_rfl) (fun _ _ _ h => h) (Or.inl ⟨by rfl, ?_⟩) (by assumption) ?_
  rotate_left 1
  · intro w hSw; (try dsimp only at hSw); go_simp; (first | done | with_reducible rfl)
  try simp only [Act.put, List.setIfInBounds_toArray, List.set_cons_zero, List.set_cons_succ]
  refine wpAnyH_take (i := 19) (v := ?_) (by simp only [List.getElem?_toArray, List.getElem?_cons_succ, List.getElem?_cons_zero]; rfl) (by kernel_rfl) (by kernel_rfl) (by kernel_rfl) (fun _ _ _ h => h) (Or.inl ⟨by rfl, ?_⟩) (by assumption) ?_
  rotate_left 1
  · intro w hSw; (try dsimp only at hSw); go_simp; (first | done | with_reducible rfl)
  try simp only [Act.put, List.setIfInBounds_toArray, List.set_cons_zero, List.set_cons_succ]
  refine wpAnyH_take (i := 20) (v := ?_) (by simp only [List.getElem?_toArray, List.getElem?_cons_succ, List.getElem?_cons_zero]; rfl) (by kernel_rfl) (by kernel_rfl) (by kernel_rfl) (fun _ _ _ h => h) (Or.inl ⟨by rfl, ?_⟩) (by assumption) ?_
  rotate_left 1
  · intro w hSw; (try dsimp only at hSw); go_simp; (first | done | with_reducible rfl)
  try simp only [Act.put, List.setIfInBounds_toArray, List.set_cons_zero, List.set_cons_succ]
  refine wpAnyH_take (i := 21) (v := ?_) (by simp only [List.getElem?_toArray, List.getElem?_cons_succ, List.getElem?_cons_zero]; rfl) (by kernel_rfl) (by kernel_rfl) (by kernel_rfl) (fun _ _ _ h => h) (Or.inl ⟨by rfl, ?_⟩) (by assumption) ?_
  rotate_left 1
  · intro w hSw; (try dsimp only at hSw); go_simp; (first | done | with_reducible rfl)
  try simp only [Act.put, List.setIfInBounds_toArray, List.set_cons_zero, List.set_cons_succ]
  refine wpAnyH_take (i := 23) (v := ?_) (by simp only [List.getElem?_toArray, List.getElem?_cons_succ, List.getElem?_cons_zero]; rfl) (by kernel_rfl) (by kernel_rfl) (by kernel_rfl) (fun _ _ _ h => h) (Or.inl ⟨by rfl, ?_⟩) (by assumption) ?_
  rotate_left 1
  · intro w hSw; (try dsimp only at hSw); go_simp; (first | done | with_reducible rfl)
  try simp only [Act.put, List.setIfInBounds_toArray, List.set_cons_zero, List.set_cons_succ]
  refine wpAnyH_take (i := 24) (v := ?_) (by simp only [List.getElem?_toArray, List.getElem?_cons_succ, List.getElem?_cons_zero]; rfl) (by kernel_rfl) (by kernel_rfl) (by kernel_rfl) (fun _ _ _ h => h) (Or.inl ⟨by rfl, ?_⟩) (by assumption) ?_
  rotate_left 1
  · intro w hSw; (try dsimp only at hSw); go_simp; (first | done | with_reducible rfl)
  try simp only [Act.put, List.setIfInBounds_toArray, List.set_cons_zero, List.set_cons_succ]
  refine wpAnyH_ready (rs := [22]) (by kernel_rfl) (by simp) ?_
  refine AllReadyH.cons (by simp only [List.getElem?_toArray, List.getElem?_cons_succ, List.getElem?_cons_zero]; rfl) (fun K hK => ?_) AllReadyH.nil
  go_simp
  refine (HIs.out _ (below_from hx3 hb6)).mono ?_
  rintro e X7 ⟨rfl, hst⟩
  have hb7 := below_from hb6 hst
  clear hHeld hst
  refine hK.out _ _ (HS2.out _ (below_from hx3 hb7)) (fun hHeld => ?_)
  clear hK K hb6
  try simp only [Act.put, List.setIfInBounds_toArray, List.set_cons_zero, List.set_cons_succ]
  refine wpAnyH_ready (rs := [25]) (by kernel_rfl) (by simp) ?_
  refine AllReadyH.cons (by simp only [List.getElem?_toArray, List.getElem?_cons_succ, List.getElem?_cons_zero]; rfl) (fun K hK => ?_) AllReadyH.nil
  go_simp
  refine (RIs.out _ hb7).mono ?_
  rintro e X8 ⟨rfl, hst⟩
  have hb8 := below_from hb7 hst
  clear hHeld hst
  refine hK.out _ _ (HS2.out _ (below_from hx3 hb8)) (fun hHeld => ?_)
  clear hK K hb7
  try simp only [Act.put, List.setIfInBounds_toArray, List.set_cons_zero, List.set_cons_succ]
  refine wpAnyH_take (i := 26) (v := ?_) (by simp only [List.getElem?_toArray, List.getElem?_cons_succ, List.getElem?_cons_zero]; rfl) (by kernel_rfl) (by kernel_rfl) (by kernel_rfl) (fun _ _ _ h => h) (Or.inl ⟨by rfl, ?_⟩) (by assumption) ?_
  rotate_left 1
  · intro w hSw; (try dsimp only at hSw); go_simp; (first | done | with_reducible rfl)
  try simp only [Act.put, List.setIfInBounds_toArray, List.set_cons_zero, List.set_cons_succ]
  refine wpAnyH_take (i := 27) (v := ?_) (by simp only [List.getElem?_toArray, List.getElem?_cons_succ, List.getElem?_cons_zero]; rfl) (by kernel_rfl) (by kernel_rfl) (by kernel_rfl) (fun _ _ _ h => h) (Or.inl ⟨by rfl, ?_⟩) (by assumption) ?_
  rotate_left 1
  · intro w hSw; (try dsimp only at hSw); go_simp; (first | done | with_reducible rfl)
  try simp only [Act.put, List.setIfInBounds_toArray, List.set_cons_zero, List.set_cons_succ]
  refine wpAnyH_take (i := 28) (v := ?_) (by simp only [List.getElem?_toArray, List.getElem?_cons_succ, List.getElem?_cons_zero]; rfl) (by kernel_rfl) (by kernel_rfl) (by kernel_rfl) (fun _ _ _ h => h) (Or.inl ⟨by rfl, ?_⟩) (by assumption) ?_
  rotate_left 1
  · intro w hSw; (try dsimp only at hSw); go_simp; (first | done | with_reducible rfl)
  try simp only [Act.put, List.setIfInBounds_toArray, List.set_cons_zero, List.set_cons_succ]
  refine wpAnyH_take (i := 29) (v := ?_) (by simp only [List.getElem?_toArray, List.getElem?_cons_succ, List.getElem?_cons_zero]; rfl) (by kernel_rfl) (by kernel_rfl) (by kernel_rfl) (fun _ _ _ h => h) (Or.inl ⟨by rfl, ?_⟩) (by assumption) ?_
  rotate_left 1
  · intro w hSw; (try dsimp only at hSw); go_simp; (first | done | with_reducible rfl)
  try simp only [Act.put, List.setIfInBounds_toArray, List.set_cons_zero, List.set_cons_succ]
  refine wpAnyH_take (i := 30) (v := ?_) (by simp only [List.getElem?_toArray, List.getElem?_cons_succ, List.getElem?_cons_zero]; rfl) (by kernel_rfl) (by kernel_rfl) (by kernel_rfl) (fun _ _ _ h => h) (Or.inl ⟨by rfl, ?_⟩) (by assumption) ?_
  rotate_left 1
  · intro w hSw; (try dsimp only at hSw); go_simp; (first | done | with_reducible rfl)
  try simp only [Act.put, List.setIfInBounds_toArray, List.set_cons_zero, List.set_cons_succ]
  refine wpAnyH_take (i := 32) (v := ?_) (by simp only [List.getElem?_toArray, List.getElem?_cons_succ, List.getElem?_cons_zero]; rfl) (by kernel_rfl) (by kernel_rfl) (by kernel_rfl) (fun _ _ _ h => h) (Or.inl ⟨by rfl, ?_⟩) (by assumption) ?_
  rotate_left 1
  · intro w hSw; (try dsimp only at hSw); go_simp; (first | done | with_reducible rfl)
  try simp only [Act.put, List.setIfInBounds_toArray, List.set_cons_zero, List.set_cons_succ]
  refine wpAnyH_take (i := 33) (v := ?_) (by simp only [List.getElem?_toArray, List.getElem?_cons_succ, List.getElem?_cons_zero]; rfl) (by kernel_rfl) (by kernel_rfl) (by kernel_rfl) (fun _ _ _ h => h) (Or.inl ⟨by rfl, ?_⟩) (by assumption) ?_
  rotate_left 1
  · intro w hSw; (try dsimp only at hSw); go_simp; (first | done | with_reducible rfl)
  try simp only [Act.put, List.setIfInBounds_toArray, List.set_cons_zero, List.set_cons_succ]
  refine wpAnyH_ready (rs := [31]) (by kernel_rfl) (by simp) ?_
  refine AllReadyH.cons (by simp only [List.getElem?_toArray, List.getElem?_cons_succ, List.getElem?_cons_zero]; rfl) (fun K hK => ?_) AllReadyH.nil
  go_simp
  refine (HClamp.out _ (below_from hx3 hb8)).mono ?_
  rintro e X9 ⟨rfl, hst⟩
  have hb9 := below_from hb8 hst
  clear hHeld hst
  refine hK.out _ _ (HS2.out _ (below_from hx3 hb9)) (fun hHeld => ?_)
  clear hK K hb8
  try simp only [Act.put, List.setIfInBounds_toArray, List.set_cons_zero, List.set_cons_succ]
  refine wpAnyH_ready (rs := [34]) (by kernel_rfl) (by simp) ?_
  refine AllReadyH.cons (by simp only [List.getElem?_toArray, List.getElem?_cons_succ, List.getElem?_cons_zero]; rfl) (fun K hK => ?_) AllReadyH.nil
  go_simp
  refine (RClamp.out _ hb9).mono ?_
  rintro e X10 ⟨rfl, hst⟩
  have hb10 := below_from hb9 hst
  clear hHeld hst
  refine hK.out _ _ (HS2.out _ (below_from hx3 hb10)) (fun hHeld => ?_)
  clear hK K hb9
  try simp only [Act.put, List.setIfInBounds_toArray, List.set_cons_zero, List.set_cons_succ]
  refine wpAnyH_take (i := 35) (v := ?_) (by simp only [List.getElem?_toArray, List.getElem?_cons_succ, List.getElem?_cons_zero]; rfl) (by kernel_rfl) (by kernel_rfl) (by kernel_rfl) (fun _ _ _ h => h) (Or.inl ⟨by rfl, ?_⟩) (by assumption) ?_
  rotate_left 1
  · intro w hSw; (try dsimp only at hSw); go_simp; (first | done | with_reducible rfl)
  try simp only [Act.put, List.setIfInBounds_toArray, List.set_cons_zero, List.set_cons_succ]
  refine wpAnyH_take (i := 36) (v := ?_) (by simp only [List.getElem?_toArray, List.getElem?_cons_succ, List.getElem?_cons_zero]; rfl) (by kernel_rfl) (by kernel_rfl) (by kernel_rfl) (fun _ _ _ h => h) (Or.inl ⟨by rfl, ?_⟩) (by assumption) ?_
  rotate_left 1
  · intro w hSw; (try dsimp only at hSw); go_simp; (first | done | with_reducible rfl)
  try simp only [Act.put, List.setIfInBounds_toArray, List.set_cons_zero, List.set_cons_succ]
  refine wpAnyH_take (i := 37) (v := ?_) (by simp only [List.getElem?_toArray, List.getElem?_cons_succ, List.getElem?_cons_zero]; rfl) (by kernel_rfl) (by kernel_rfl) (by kernel_rfl) (fun _ _ _ h => h) (Or.inl ⟨by rfl, ?_⟩) (by assumption) ?_
  rotate_left 1
  · intro w hSw; (try dsimp only at hSw); go_simp; (first | done | with_reducible rfl)
  try simp only [Act.put, List.setIfInBounds_toArray, List.set_cons_zero, List.set_cons_succ]
  refine wpAnyH_take (i := 38) (v := ?_) (by simp only [List.getElem?_toArray, List.getElem?_cons_succ, List.getElem?_cons_zero]; rfl) (by kernel_rfl) (by kernel_rfl) (by kernel_rfl) (fun _ _ _ h => h) (Or.inl ⟨by rfl, ?_⟩) (by assumption) ?_
  rotate_left 1
  · intro w hSw; (try dsimp only at hSw); go_simp; (first | done | with_reducible rfl)
  try simp only [Act.put, List.setIfInBounds_toArray, List.set_cons_zero, List.set_cons_succ]
  refine wpAnyH_take (i := 39) (v := ?_) (by simp only [List.getElem?_toArray, List.getElem?_cons_succ, List.getElem?_cons_zero]; rfl) (by kernel_rfl) (by kernel_rfl) (by kernel_rfl) (fun _ _ _ h => h) (Or.inl ⟨by rfl, ?_⟩) (by assumption) ?_
  rotate_left 1
  · intro w hSw; (try dsimp only at hSw); go_simp; (first | done | with_reducible rfl)
  try simp only [Act.put, List.setIfInBounds_toArray, List.set_cons_zero, List.set_cons_succ]
  refine wpAnyH_take (i := 41) (v := ?_) (by simp only [List.getElem?_toArray, List.getElem?_cons_succ, List.getElem?_cons_zero]; rfl) (by kernel_rfl) (by kernel_rfl) (by kernel_rfl) (fun _ _ _ h => h) (Or.inl ⟨by rfl, ?_⟩) (by assumption) ?_
  rotate_left 1
  · intro w hSw; (try dsimp only at hSw); go_simp; (first | done | with_reducible rfl)
  try simp only [Act.put, List.setIfInBounds_toArray, List.set_cons_zero, List.set_cons_succ]
  refine wpAnyH_take (i := 42) (v := ?_) (by simp only [List.getElem?_toArray, List.getElem?_cons_succ, List.getElem?_cons_zero]; rfl) (by kernel_rfl) (by kernel_rfl) (by kernel_rfl) (fun _ _ _ h => h) (Or.inl ⟨by rfl, ?_⟩) (by assumption) ?_
  rotate_left 1
  · intro w hSw; (try dsimp only at hSw); go_simp; (first | done | with_reducible rfl)
  try simp only [Act.put, List.setIfInBounds_toArray, List.set_cons_zero, List.set_cons_succ]
  refine wpAnyH_ready (rs := [40]) (by kernel_rfl) (by simp) ?_
  refine AllReadyH.cons (by simp only [List.getElem?_toArray, List.getElem?_cons_succ, List.getElem?_cons_zero]; rfl) (fun K hK => ?_) AllReadyH.nil
  go_simp
  refine (HCmp.out _ (below_from hx3 hb10)).mono ?_
  rintro e X11 ⟨rfl, hst⟩
  have hb11 := below_from hb10 hst
  clear hHeld hst
  refine hK.out _ _ (HS2.out _ (below_from hx3 hb11)) (fun hHeld => ?_)
  clear hK K hb10
  try simp only [Act.put, List.setIfInBounds_toArray, List.set_cons_zero, List.set_cons_succ]
  refine wpAnyH_ready (rs := [43]) (by kernel_rfl) (by simp) ?_
  refine AllReadyH.cons (by simp only [List.getElem?_toArray, List.getElem?_cons_succ, List.getElem?_cons_zero]; rfl) (fun K hK => ?_) AllReadyH.nil
  go_simp
  refine (RCmp.out _ hb11).mono ?_
  rintro e X12 ⟨rfl, hst⟩
  have hb12 := below_from hb11 hst
  clear hHeld hst
  refine hK.out _ _ (HS2.out _ (below_from hx3 hb12)) (fun hHeld => ?_)
  clear hK K hb11
  try simp only [Act.put, List.setIfInBounds_toArray, List.set_cons_zero, List.set_cons_succ]
  refine wpAnyH_take (i := 44) (v := ?_) (by simp only [List.getElem?_toArray, List.getElem?_cons_succ, List.getElem?_cons_zero]; rfl) (by kernel_rfl) (by kernel_rfl) (by kernel_rfl) (fun _ _ _ h => h) (Or.inl ⟨by rfl, ?_⟩) (by assumption) ?_
  rotate_left 1
  · intro w hSw; (try dsimp only at hSw); go_simp; (first | done | with_reducible rfl)
  try simp only [Act.put, List.setIfInBounds_toArray, List.set_cons_zero, List.set_cons_succ]
  refine wpAnyH_take (i := 45) (v := ?_) (by simp only [List.getElem?_toArray, List.getElem?_cons_succ, List.getElem?_cons_zero]; rfl) (by kernel_rfl) (by kernel_rfl) (by kernel_rfl) (fun _ _ _ h => h) (Or.inl ⟨by rfl, ?_⟩) (by assumption) ?_
  rotate_left 1
  · intro w hSw; (try dsimp only at hSw); go_simp; (first | done | with_reducible rfl)
  try simp only [Act.put, List.setIfInBounds_toArray, List.set_cons_zero, List.set_cons_succ]
  refine wpAnyH_done (by kernel_rfl) ?_ _
  refine NoPanic.normal ?_
  clear hHeld hqE hqC hm1 hsz1 hi1 hc1
  have mp12 := (HB.out _ (below_from hx3 hb12)).1
  obtain ⟨q0, qf⟩ := blk mp12
  have qa := cell_on (q0 0)
  have qb := cell_on (q0 1)
  go_wp2_with fail
  refine (HOffset.out _ (below_from hx3 hb12)).mono ?_
  rintro e X13 ⟨rfl, hst⟩
  have hb13 := below_from hb12 hst
  have hb13a : ∀ ob, Below w3.heap.size w3 (X13.alloc ob) := fun ob => hb13.alloc hb13.size ob
  have mp13 := (HB.out _ (below_from hx3 hb13)).1
  clear hst q0 qf qa qb
  obtain ⟨q0, qf⟩ := blk mp13
  have qa := cell_on (q0 0)
  have qb := cell_on (q0 1)
  go_wp2_with fail
  refine (ROffset.out _ hb13).mono ?_
  rintro e X14 ⟨rfl, hst⟩
  have hb14 := below_from hb13 hst
  have hb14a : ∀ ob, Below w3.heap.size w3 (X14.alloc ob) := fun ob => hb14.alloc hb14.size ob
  have mp14 := (HB.out _ (below_from hx3 hb14)).1
  clear hst q0 qf qa qb
  obtain ⟨q0, qf⟩ := blk mp14
  have qa := cell_on (q0 0)
  have qb := cell_on (q0 1)
  go_wp2_with fail
  refine (HAt.out _ (below_from hx3 hb14)).mono ?_
  rintro e X15 ⟨rfl, hst⟩
  have hb15 := below_from hb14 hst
  have hb15a : ∀ ob, Below w3.heap.size w3 (X15.alloc ob) := fun ob => hb15.alloc hb15.size ob
  have mp15 := (HB.out _ (below_from hx3 hb15)).1
  clear hst q0 qf qa qb
  obtain ⟨q0, qf⟩ := blk mp15
  have qa := cell_on (q0 0)
  have qb := cell_on (q0 1)
  go_wp2_with fail
  refine (RAt.out _ (hb15a _)).mono ?_
  rintro e X16 ⟨rfl, hst⟩
  have hb16 := below_from (hb15a _) hst
  have hb16a : ∀ ob, Below w3.heap.size w3 (X16.alloc ob) := fun ob => hb16.alloc hb16.size ob
  have mA_16 := heap_below hst (heap_new _ _ rfl)
  have mp16 := (HB.out _ (below_from hx3 hb16)).1
  clear hst q0 qf qa qb
  obtain ⟨q0, qf⟩ := blk mp16
  have qa := cell_on (q0 0)
  have qb := cell_on (q0 1)
  go_wp2_with fail
  refine (HStep.out _ (below_from hx3 (hb16a _))).mono ?_
  rintro e X17 ⟨rfl, hst⟩
  have hb17 := below_from (hb16a _) hst
  have hb17a : ∀ ob, Below w3.heap.size w3 (X17.alloc ob) := fun ob => hb17.alloc hb17.size ob
  have mA_17 := heap_below hst (heap_old _ _ mA_16)
  have mB_17 := heap_below hst (heap_new _ _ rfl)
  have mp17 := (HB.out _ (below_from hx3 hb17)).1
  clear hst q0 qf qa qb
  obtain ⟨q0, qf⟩ := blk mp17
  have qa := cell_on (q0 0)
  have qb := cell_on (q0 1)
  go_wp2_with fail
  refine (RStep.out _ (hb17a _)).mono ?_
  rintro e X18 ⟨rfl, hst⟩
  have hb18 := below_from (hb17a _) hst
  have hb18a : ∀ ob, Below w3.heap.size w3 (X18.alloc ob) := fun ob => hb18.alloc hb18.size ob
  have mA_18 := heap_below hst (heap_old _ _ mA_17)
  have mB_18 := heap_below hst (heap_old _ _ mB_17)
  have mC_18 := heap_below hst (heap_new _ _ rfl)
  have mp18 := (HB.out _ (below_from hx3 hb18)).1
  clear hst q0 qf qa qb
  obtain ⟨q0, qf⟩ := blk mp18
  have qa := cell_on (q0 0)
  have qb := cell_on (q0 1)
  obtain ⟨zA, zfA⟩ := blk mA_18
  have zaA := cell_on (zA 0)
  have zbA := cell_on (zA 1)
  obtain ⟨zB, zfB⟩ := blk mB_18
  have zaB := cell_on (zB 0)
  have zbB := cell_on (zB 1)
  obtain ⟨zC, zfC⟩ := blk mC_18
  have zaC := cell_on (zC 0)
  have zbC := cell_on (zC 1)
  go_wp2_with fail
  refine (HOwn.out _ (below_from hx3 (hb18a _))).mono ?_
  rintro e X19 ⟨v9, rfl, hv9, hst9⟩
  obtain ⟨va9, vc9, rfl⟩ := hv9.slice
  have hb19 := below_from (hb18a _) hst9
  have hI := lawIs_any _ _ d d 0 0 _ X19 _ hst9.size hv9 (HV3.out X19 hb19)
  rw [decide_eq_true (rfl : (0 : Int) = 0), decide_eq_true (rfl : d = d)] at hI
  have HI := Lib.hid hI
  clear hI hv9
  go_wp2_with fail
  refine HI.out.mono ?_
  rintro e X20 ⟨rfl, hst20⟩
  have hb20 := below_from (hb18a _) (hst9.trans hst20)
  clear HI
  go_wp2_with fail
  refine (HSame.out _ hb20).mono ?_
  rintro e X21 ⟨rfl, hst21⟩
  have hb21 := below_from hb20 hst21
  go_wp2_with fail
  refine (HA.out _ (below_from hx3 hb21)).mono ?_
  rintro e X22 ⟨rfl, hst22⟩
  have hb22 := below_from hb21 hst22
  go_wp2_with fail
  go_ret
  exact ⟨rfl, H1.out.trans ((below_from hx3 hb22).mono hs1)⟩
end Go.Proofs.YtfoiaoopbkcpoaaGreatDoor
