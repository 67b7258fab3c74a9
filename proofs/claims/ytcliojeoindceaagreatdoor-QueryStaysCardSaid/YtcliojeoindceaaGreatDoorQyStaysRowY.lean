/- Parts of the proof. -/
import Derived.Test.YtcliojeoindceaaGreatDoorLaidY
import Derived.Test.YtcliojeoindceaaGreatDoorPartBaseY
import Derived.Test.YtcliojeoindceaaGreatDoorLawQyStaysY
set_option linter.unusedVariables false
set_option linter.unusedSimpArgs false
set_option maxHeartbeats 8000000
namespace Go.Proofs.YtcliojeoindceaaGreatDoor.rowQueryStays
open Go.ChangeShapes Go.WideShapes Go.ChangeAt Go.RowKit
open Go.WideMaps Go.WideElems
open Go.ChangeMaps (setBlock shut_map_nil open_string shut_string keptBut_setBlock frozen?_setBlock heap_setBlock_same)
open Go.Proofs.Qw
open _root_.Go.Proofs.Tryz renaming prog → zV
set_option maxRecDepth 100000 in
theorem contract (H : Type) (enc : TypeId × Value → H) (W : World) (base : Nat) (args : Array Value) (ds gs : List (DataW H)) (before : List MemPlace)
  (hval : ∀ (j : Nat) t v, Tryz.f8.params[j]? = some t → args[j]? = some v → Value.okWide zV W .any base t v)
  (hW : DataW.Whole enc zV Tryz.f8.params.toList Rows.queryStaysSpec.vars false W args.toList ds gs before)
  (hwt : (DataW.weightsEach zV (Tryz.f8.params.toList ++ (OpenSpec.ofChange Rows.queryStaysSpec).bare.plain.varTypes zV) (ds ++ gs)).all (· ≤ reachBytes) = true) (he : EnvT W) :
  Calls zV 8 args W fun e W' => ∃ v, e = .returned v ∧ Rows.queryStaysSpec.post enc zV Tryz.f8 false true false false W args v W' := by
 have hW' := hW;obtain ⟨p, q, hA0, hV, rfl, hfz, hnd⟩ := hW;have hA : DataW.TrodAll enc zV W 0 (fun _ => true) true Tryz.f8.params.toList args.toList ds p := hA0;rw [Tryz.params8] at hA hval hwt;obtain ⟨v0, vs0, d0, ds0, p0, q0, hargs, rfl, rfl, h0, r0⟩ := trodAll_cons hA;obtain ⟨v1, vs1, d1, ds1, p1, q1, rfl, rfl, rfl, h1, r1⟩ := trodAll_cons r0;obtain ⟨v2, vs2, d2, ds2, p2, q2, rfl, rfl, rfl, h2, r2⟩ := trodAll_cons r1;obtain ⟨rfl, rfl, rfl⟩ := trodAll_nil r2;obtain rfl : args = #[v0, v1, v2] := by cases args; simp_all
 obtain ⟨rfl, rfl⟩ := trodVars_none hV;have w0 : ∀ n ∈ d0.weights zV 26, n ≤ reachBytes := fun n hn => of_decide_eq_true (List.all_eq_true.1 hwt n (List.mem_append_left _ hn));have w1 : ∀ n ∈ d1.weights zV 52, n ≤ reachBytes := fun n hn => of_decide_eq_true (List.all_eq_true.1 hwt n (List.mem_append_right _ (List.mem_append_left _ hn)));have w2 : ∀ n ∈ d2.weights zV 9, n ≤ reachBytes := fun n hn => of_decide_eq_true (List.all_eq_true.1 hwt n (List.mem_append_right _ (List.mem_append_right _ (List.mem_append_left _ hn))));have hlt0 : ∀ x ∈ p0, x.block < W.heap.size := fun x hx => by simpa using hW'.lt x (by simp [hx])
 have hlt1 : ∀ x ∈ p1, x.block < W.heap.size := fun x hx => by simpa using hW'.lt x (by simp [hx])
 have hlt2 : ∀ x ∈ p2, x.block < W.heap.size := fun x hx => by simpa using hW'.lt x (by simp [hx])
 obtain ⟨u0, x0, hx0, l0, s0, bo0, bf0⟩ := zKh (okWide_struct Tryz.underlying26 (hval 0 26 v0 rfl rfl)) h0 w0;subst hx0;obtain ⟨x1, hx1⟩ := zLa (okWide_slice Tryz.underlying52 (hval 1 52 v1 rfl rfl)) h1;obtain ⟨x2, hx2, _, _, wx2⟩ := open_string Tryz.underlying9 (hval 2 9 v2 rfl rfl) h2;subst hx2;clear hA0;simp only [List.append_nil] at hW';refine (zHN u0 v1 x0 x1 x2 W _ _ l0 s0 hx1 bo0 bf0 he).mono fun e W' ⟨he, hb⟩ => ?_;subst he;exact ⟨_, rfl, zMh (pv := []) hW' (fun _ _ _ => trodAll_cons_mk (shut_bool Tryz.underlying4 _) trodAll_mk0) (trodAll_cons_mk (Below.trod zEi zT (of_decide_eq_true zT) h0 hb hlt0) (trodAll_cons_mk (Below.trod zEi zT (of_decide_eq_true zT) h1 hb hlt1) (trodAll_cons_mk (Below.trod zEi zT (of_decide_eq_true zT) h2 hb hlt2) trodAll_mk0))) (fun _ _ => rfl) hb⟩
theorem laid_met (os : Os) : laidMet zV Rows.queryStaysRow.laid ((laidWorld os).forCall (fun _ _ => 0) ⟨#[], #[.agg #[.slice none 0 0, .int .i64 0, .int .i64 0, .int .i64 0, .int .i64 0, .int .i64 0, .int .i64 0], .slice none 0 0, .string ⟨#[]⟩], []⟩).memory :=
 laidMet_of_run' 8 zT zT
theorem reads (os : Os) {H : Type} (enc : TypeId × Value → H) : ∃ places, DataW.whole enc zV ((laidWorld os).forCall (fun _ _ => 0) ⟨#[], #[.agg #[.slice none 0 0, .int .i64 0, .int .i64 0, .int .i64 0, .int .i64 0, .int .i64 0, .int .i64 0], .slice none 0 0, .string ⟨#[]⟩], []⟩).memory Tryz.f8.params.toList Rows.queryStaysSpec.vars false #[Value.agg #[.slice none 0 0, .int .i64 0, .int .i64 0, .int .i64 0, .int .i64 0, .int .i64 0, .int .i64 0], Value.slice none 0 0, Value.string ⟨#[]⟩].toList 8 = some ([.agg [.nil, .agg [.lit (.int .i64 0), .lit (.int .i64 0)], .agg [.lit (.int .i64 0), .lit (.int .i64 0)], .lit (.int .i64 0), .lit (.int .i64 0)], .nil, .lit (.string [])], [], places) :=
 ⟨[], by kernel_rfl⟩
set_option maxRecDepth 100000 in
theorem lifted (os : Os) (started : os.Started) (H : Type) (enc : TypeId × Value → H) (F : Stop.Interp) :
  ReturnsInHanded {} Tryz.checked os 8 .any ((OpenSpec.ofChange Rows.queryStaysSpec).preRow enc zV Tryz.f8 Rows.queryStaysRow.domain false Rows.queryStaysRow.laid) (((OpenSpec.ofChange Rows.queryStaysSpec).at F).post enc zV Tryz.f8 false true false false) := by
 obtain ⟨places, hx⟩ := reads os enc
 refine returnsInHanded_of_row (C := Tryz.checked) (s := OpenSpec.ofChange Rows.queryStaysSpec) own started zT Tryz.func8
  (witness_row_at (enc := enc) (C := Tryz.checked) false (laidWorld os) #[.agg #[.slice none 0 0, .int .i64 0, .int .i64 0, .int .i64 0, .int .i64 0, .int .i64 0, .int .i64 0], .slice none 0 0, .string ⟨#[]⟩] rfl zT zT zT
   (OpenSpec.preRow_of_cond 8 hx zT (fun k hk => by cases hk) zT (laid_met os))) ?_
 intro W base args ds gs before hval hW _ _ hwt hL hs _;exact contract H enc W base args ds gs before hval hW hwt ⟨hs, zMS hL⟩
theorem closed : joinedFacts Tryz.pinned.checked.prog 8 Tryz.f8 (OpenSpec.ofChange Rows.queryStaysSpec).bare Rows.queryStaysRow = true := by
 unfold joinedFacts;simp only [Bool.and_eq_true]
 repeat' apply And.intro
 all_goals as_aux_lemma => kernel_rfl
theorem said : Rows.QueryStaysSaid :=
 OpenClaim.holds_of_cond 8 Tryz.f8 rfl rfl rfl rfl rfl rfl rfl ⟨rfl, rfl, rfl, rfl, rfl⟩ rfl rfl rfl rfl rfl zBA Tryz.func8 closed
  (of_decide_eq_true zBA) (by unfold Func.isWrapper; rw [if_neg (of_decide_eq_false zBA)]; exact ⟨rfl, rfl⟩)
  (fun os started H enc _ F => by rw [OpenClaim.pre_eq_preRow]; exact lifted os started H enc F)
theorem plain (f : FuncId) (fn : Func) (hf : Tryz.pinned.checked.prog.funcNamed "quillwork/quillworklaw26.QueryStays" = some f) (hfn : Tryz.pinned.checked.prog.funcs[f]? = some fn) :
  false = Tryz.pinned.checked.prog.looks [] ∧ ∀ (j : Nat) t, fn.params[j]? = some t → Tryz.pinned.checked.prog.wantsStandIn t = false := by
 obtain rfl : f = 8 := Option.some.inj ((show Tryz.prog.funcNamed "quillwork/quillworklaw26.QueryStays" = some 8 by kernel_rfl).symm.trans hf) |>.symm;obtain rfl : fn = Tryz.f8 := (Option.some.inj (Tryz.func8.symm.trans hfn)).symm;refine ⟨by kernel_rfl, fun j t ht => ?_⟩;rw [Tryz.params8] at ht;have hm : t ∈ [26, 52, 9] := by simpa using Array.mem_of_getElem? ht
 have hall : ([26, 52, 9].all fun u => !Tryz.prog.wantsStandIn u) = true := by kernel_rfl
 exact (show Tryz.prog.wantsStandIn t = false by simpa using List.all_eq_true.1 hall t hm)
theorem card : Rows.QueryStaysCardSaid :=
 Claim7.holds_tied_plain_at .later [] _ _ _ _ said (fun _ h => by cases h) zBA (fun _ h => by cases h) queryStays_row_tie rfl ⟨rfl, rfl⟩ zBA rfl plain zBA
#print axioms card
end Go.Proofs.YtcliojeoindceaaGreatDoor.rowQueryStays
