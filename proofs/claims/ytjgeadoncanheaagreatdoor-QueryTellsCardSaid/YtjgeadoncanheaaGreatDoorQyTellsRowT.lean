/- Parts of the proof. -/
import Derived.Test.YtjgeadoncanheaaGreatDoorDocDeleteT
import Derived.Test.YtjgeadoncanheaaGreatDoorPartBaseT
import Derived.Test.YtjgeadoncanheaaGreatDoorLawQyTellsT
set_option linter.unusedVariables false
set_option linter.unusedSimpArgs false
set_option maxHeartbeats 8000000
namespace Go.Proofs.YtjgeadoncanheaaGreatDoor.rowQueryTells
open Go.ChangeShapes Go.WideShapes Go.ChangeAt Go.RowKit
open Go.WideMaps Go.WideElems
open Go.ChangeMaps (setBlock shut_map_nil open_string shut_string keptBut_setBlock frozen?_setBlock heap_setBlock_same)
open Go.Proofs.Qw
open _root_.Go.Proofs.Tryz renaming prog → zV
set_option maxRecDepth 100000 in
theorem contract (H : Type) (enc : TypeId × Value → H) (W : World) (base : Nat) (args : Array Value) (ds gs : List (DataW H)) (before : List MemPlace)
  (hval : ∀ (j : Nat) t v, Tryz.f3.params[j]? = some t → args[j]? = some v → Value.okWide zV W .any base t v)
  (hW : DataW.Whole enc zV Tryz.f3.params.toList Rows.queryTellsSpec.vars false W args.toList ds gs before)
  (hwt : (DataW.weightsEach zV (Tryz.f3.params.toList ++ (OpenSpec.ofChange Rows.queryTellsSpec).bare.plain.varTypes zV) (ds ++ gs)).all (· ≤ reachBytes) = true) (he : EnvT W) :
  Calls zV 3 args W fun e W' => ∃ v, e = .returned v ∧ Rows.queryTellsSpec.post enc zV Tryz.f3 false true false false W args v W' := by
 have hW' := hW;obtain ⟨p, q, hA0, hV, rfl, hfz, hnd⟩ := hW;have hA : DataW.TrodAll enc zV W 0 (fun _ => true) true Tryz.f3.params.toList args.toList ds p := hA0;rw [Tryz.params3] at hA hval hwt;obtain ⟨v0, vs0, d0, ds0, p0, q0, hargs, rfl, rfl, h0, r0⟩ := trodAll_cons hA;obtain ⟨v1, vs1, d1, ds1, p1, q1, rfl, rfl, rfl, h1, r1⟩ := trodAll_cons r0;obtain ⟨rfl, rfl, rfl⟩ := trodAll_nil r1;obtain rfl : args = #[v0, v1] := by cases args; simp_all
 obtain ⟨rfl, rfl⟩ := trodVars_none hV;have w0 : ∀ n ∈ d0.weights zV 26, n ≤ reachBytes := fun n hn => of_decide_eq_true (List.all_eq_true.1 hwt n (List.mem_append_left _ hn));have w1 : ∀ n ∈ d1.weights zV 9, n ≤ reachBytes := fun n hn => of_decide_eq_true (List.all_eq_true.1 hwt n (List.mem_append_right _ (List.mem_append_left _ hn)));have hlt0 : ∀ x ∈ p0, x.block < W.heap.size := fun x hx => by simpa using hW'.lt x (by simp [hx])
 have hlt1 : ∀ x ∈ p1, x.block < W.heap.size := fun x hx => by simpa using hW'.lt x (by simp [hx])
 obtain ⟨u0, x0, hx0, l0, s0, bo0, bf0⟩ := zJX (okWide_struct Tryz.underlying26 (hval 0 26 v0 rfl rfl)) h0 w0;subst hx0;obtain ⟨x1, hx1, _, _, wx1⟩ := open_string Tryz.underlying9 (hval 1 9 v1 rfl rfl) h1;subst hx1;clear hA0;simp only [List.append_nil] at hW';refine (zHA u0 x0 x1 W _ l0 s0 bo0 bf0 he).mono fun e W' ⟨he, hb⟩ => ?_;subst he;exact ⟨_, rfl, zLF (pv := []) hW' (fun _ _ _ => trodAll_cons_mk (shut_bool Tryz.underlying4 _) trodAll_mk0) (trodAll_cons_mk (Below.trod zGN qC (of_decide_eq_true qC) h0 hb hlt0) (trodAll_cons_mk (Below.trod zGN qC (of_decide_eq_true qC) h1 hb hlt1) trodAll_mk0)) (fun _ _ => rfl) hb⟩
theorem laid_met (os : Os) : laidMet zV Rows.queryTellsRow.laid ((laidWorld os).forCall (fun _ _ => 0) ⟨#[], #[.agg #[.slice none 0 0, .int .i64 0, .int .i64 0, .int .i64 0, .int .i64 0, .int .i64 0, .int .i64 0], .string ⟨#[]⟩], []⟩).memory :=
 laidMet_of_run' 8 qC qC
theorem reads (os : Os) {H : Type} (enc : TypeId × Value → H) : ∃ places, DataW.whole enc zV ((laidWorld os).forCall (fun _ _ => 0) ⟨#[], #[.agg #[.slice none 0 0, .int .i64 0, .int .i64 0, .int .i64 0, .int .i64 0, .int .i64 0, .int .i64 0], .string ⟨#[]⟩], []⟩).memory Tryz.f3.params.toList Rows.queryTellsSpec.vars false #[Value.agg #[.slice none 0 0, .int .i64 0, .int .i64 0, .int .i64 0, .int .i64 0, .int .i64 0, .int .i64 0], Value.string ⟨#[]⟩].toList 8 = some ([.agg [.nil, .agg [.lit (.int .i64 0), .lit (.int .i64 0)], .agg [.lit (.int .i64 0), .lit (.int .i64 0)], .lit (.int .i64 0), .lit (.int .i64 0)], .lit (.string [])], [], places) :=
 ⟨[], by kernel_rfl⟩
set_option maxRecDepth 100000 in
theorem lifted (os : Os) (started : os.Started) (H : Type) (enc : TypeId × Value → H) (F : Stop.Interp) :
  ReturnsInHanded {} Tryz.checked os 3 .any ((OpenSpec.ofChange Rows.queryTellsSpec).preRow enc zV Tryz.f3 Rows.queryTellsRow.domain false Rows.queryTellsRow.laid) (((OpenSpec.ofChange Rows.queryTellsSpec).at F).post enc zV Tryz.f3 false true false false) := by
 obtain ⟨places, hx⟩ := reads os enc
 refine returnsInHanded_of_row (C := Tryz.checked) (s := OpenSpec.ofChange Rows.queryTellsSpec) own started qC Tryz.func3
  (witness_row_at (enc := enc) (C := Tryz.checked) false (laidWorld os) #[.agg #[.slice none 0 0, .int .i64 0, .int .i64 0, .int .i64 0, .int .i64 0, .int .i64 0, .int .i64 0], .string ⟨#[]⟩] rfl qC qC qC
   (OpenSpec.preRow_of_cond 8 hx qC (fun k hk => by cases hk) qC (laid_met os))) ?_
 intro W base args ds gs before hval hW _ _ hwt hL hs _;exact contract H enc W base args ds gs before hval hW hwt ⟨hs, zMk hL⟩
theorem closed : joinedFacts Tryz.pinned.checked.prog 3 Tryz.f3 (OpenSpec.ofChange Rows.queryTellsSpec).bare Rows.queryTellsRow = true := by
 unfold joinedFacts;simp only [Bool.and_eq_true]
 repeat' apply And.intro
 all_goals as_aux_lemma => kernel_rfl
theorem said : Rows.QueryTellsSaid :=
 OpenClaim.holds_of_cond 3 Tryz.f3 rfl rfl rfl rfl rfl rfl rfl ⟨rfl, rfl, rfl, rfl, rfl⟩ rfl rfl rfl rfl rfl zBo Tryz.func3 closed
  (of_decide_eq_true zBo) (by unfold Func.isWrapper; rw [if_neg (of_decide_eq_false zBo)]; exact ⟨rfl, rfl⟩)
  (fun os started H enc _ F => by rw [OpenClaim.pre_eq_preRow]; exact lifted os started H enc F)
theorem plain (f : FuncId) (fn : Func) (hf : Tryz.pinned.checked.prog.funcNamed "quillwork/quillworklaw26.QueryTells" = some f) (hfn : Tryz.pinned.checked.prog.funcs[f]? = some fn) :
  false = Tryz.pinned.checked.prog.looks [] ∧ ∀ (j : Nat) t, fn.params[j]? = some t → Tryz.pinned.checked.prog.wantsStandIn t = false := by
 obtain rfl : f = 3 := Option.some.inj ((show Tryz.prog.funcNamed "quillwork/quillworklaw26.QueryTells" = some 3 by kernel_rfl).symm.trans hf) |>.symm;obtain rfl : fn = Tryz.f3 := (Option.some.inj (Tryz.func3.symm.trans hfn)).symm;refine ⟨by kernel_rfl, fun j t ht => ?_⟩;rw [Tryz.params3] at ht;have hm : t ∈ [26, 9] := by simpa using Array.mem_of_getElem? ht
 have hall : ([26, 9].all fun u => !Tryz.prog.wantsStandIn u) = true := by kernel_rfl
 exact (show Tryz.prog.wantsStandIn t = false by simpa using List.all_eq_true.1 hall t hm)
theorem card : Rows.QueryTellsCardSaid :=
 Claim7.holds_tied_plain_at .later [] _ _ _ _ said (fun _ h => by cases h) zBo (fun _ h => by cases h) queryTells_row_tie rfl ⟨rfl, rfl⟩ zBo rfl plain zBo
#print axioms card
end Go.Proofs.YtjgeadoncanheaaGreatDoor.rowQueryTells
