/- The table of tags: tags.table. -/
import Derived.Test.YtcliojeoindceaaGreatDoorDocDeleteS
import Derived.Test.YtcliojeoindceaaGreatDoorQryArgsS
import Derived.Maps.OwnSet
import Derived.Maps.OwnOps
import Derived.Test.YtcliojeoindceaaGreatDoorAttrWalkS
import Derived.Test.YtcliojeoindceaaGreatDoorLineLiftS
import Derived.Test.YtcliojeoindceaaGreatDoorSelectS
import Derived.Test.YtcliojeoindceaaGreatDoorRefLongS
import Derived.Deep.RegionHeld3
import Derived.Deep.DrawnRows
set_option linter.unusedVariables false
set_option linter.unusedSimpArgs false
set_option maxHeartbeats 8000000
namespace Go.Proofs.YtcliojeoindceaaGreatDoor
open Go.RowKit
open Go.Proofs.Qw
attribute [local go_sem] Oper.semAt_some
open _root_.Go.Proofs.YtcliojeoindceaaGreatDoor renaming heap_old → zZ, heap_new → qG
def tagV (n : Nat) : Array Value := #[.slice none 0 0, .int .i64 1, .slice (some ⟨n + 1, 0, none⟩) 1 1, .int .i64 2, .slice (some ⟨n + 2, 0, none⟩) 1 1, .int .i64 3, .slice (some ⟨n + 3, 0, none⟩) 1 1, .int .i64 3, .slice (some ⟨n + 4, 0, none⟩) 1 1, .int .i64 3, .slice (some ⟨n + 5, 0, none⟩) 1 1, .int .i64 3, .slice (some ⟨n + 6, 0, none⟩) 1 1, .int .i64 2, .slice (some ⟨n + 7, 0, none⟩) 1 1, .int .i64 2, .slice (some ⟨n + 8, 0, none⟩) 1 1, .int .i64 2, .slice (some ⟨n + 9, 0, none⟩) 1 1, .int .i64 3, .slice (some ⟨n + 10, 0, none⟩) 1 1, .int .i64 4, .slice (some ⟨n + 11, 0, none⟩) 2 2, .int .i64 4, .slice (some ⟨n + 12, 0, none⟩) 2 2, .int .i64 4, .slice (some ⟨n + 13, 0, none⟩) 2 2, .int .i64 4, .slice (some ⟨n + 14, 0, none⟩) 3 3, .int .i64 4, .slice (some ⟨n + 15, 0, none⟩) 1 1, .int .i64 4, .slice (some ⟨n + 16, 0, none⟩) 1 1, .int .i64 5]
def tagObjs : List Obj := [
 .cells #[.string ⟨#[100, 105, 118]⟩] 9,
 .cells #[.string ⟨#[112]⟩] 9,
 .cells #[.string ⟨#[104, 49]⟩] 9,
 .cells #[.string ⟨#[104, 50]⟩] 9,
 .cells #[.string ⟨#[104, 51]⟩] 9,
 .cells #[.string ⟨#[98, 108, 111, 99, 107, 113, 117, 111, 116, 101]⟩] 9,
 .cells #[.string ⟨#[117, 108]⟩] 9,
 .cells #[.string ⟨#[111, 108]⟩] 9,
 .cells #[.string ⟨#[108, 105]⟩] 9,
 .cells #[.string ⟨#[97]⟩] 9,
 .cells #[.string ⟨#[98]⟩, .string ⟨#[115, 116, 114, 111, 110, 103]⟩] 9,
 .cells #[.string ⟨#[105]⟩, .string ⟨#[101, 109]⟩] 9,
 .cells #[.string ⟨#[117]⟩, .string ⟨#[105, 110, 115]⟩] 9,
 .cells #[.string ⟨#[115]⟩, .string ⟨#[115, 116, 114, 105, 107, 101]⟩, .string ⟨#[100, 101, 108]⟩] 9,
 .cells #[.string ⟨#[115, 112, 97, 110]⟩] 9,
 .cells #[.string ⟨#[98, 114]⟩] 9]
set_option maxRecDepth 100000 in
theorem tag_chain (w : World) : ∃ W1, ((((((((((((((((w.alloc (.cells #[.slice none 0 0, .int .i64 0, .slice none 0 0, .int .i64 0, .slice none 0 0, .int .i64 0, .slice none 0 0, .int .i64 0, .slice none 0 0, .int .i64 0, .slice none 0 0, .int .i64 0, .slice none 0 0, .int .i64 0, .slice none 0 0, .int .i64 0, .slice none 0 0, .int .i64 0, .slice none 0 0, .int .i64 0, .slice none 0 0, .int .i64 0, .slice none 0 0, .int .i64 0, .slice none 0 0, .int .i64 0, .slice none 0 0, .int .i64 0, .slice none 0 0, .int .i64 0, .slice none 0 0, .int .i64 0, .slice none 0 0, .int .i64 0] 166)).alloc (.cells #[.string ⟨#[100, 105, 118]⟩] 9)).alloc (.cells #[.string ⟨#[112]⟩] 9)).alloc (.cells #[.string ⟨#[104, 49]⟩] 9)).alloc (.cells #[.string ⟨#[104, 50]⟩] 9)).alloc (.cells #[.string ⟨#[104, 51]⟩] 9)).alloc (.cells #[.string ⟨#[98, 108, 111, 99, 107, 113, 117, 111, 116, 101]⟩] 9)).alloc (.cells #[.string ⟨#[117, 108]⟩] 9)).alloc (.cells #[.string ⟨#[111, 108]⟩] 9)).alloc (.cells #[.string ⟨#[108, 105]⟩] 9)).alloc (.cells #[.string ⟨#[97]⟩] 9)).alloc (.cells #[.string ⟨#[98]⟩, .string ⟨#[115, 116, 114, 111, 110, 103]⟩] 9)).alloc (.cells #[.string ⟨#[105]⟩, .string ⟨#[101, 109]⟩] 9)).alloc (.cells #[.string ⟨#[117]⟩, .string ⟨#[105, 110, 115]⟩] 9)).alloc (.cells #[.string ⟨#[115]⟩, .string ⟨#[115, 116, 114, 105, 107, 101]⟩, .string ⟨#[100, 101, 108]⟩] 9)).alloc (.cells #[.string ⟨#[115, 112, 97, 110]⟩] 9)).alloc (.cells #[.string ⟨#[98, 114]⟩] 9) = W1 ∧ Below w.heap.size w W1 ∧ W1.heap[w.heap.size]? = some (.cells #[.slice none 0 0, .int .i64 0, .slice none 0 0, .int .i64 0, .slice none 0 0, .int .i64 0, .slice none 0 0, .int .i64 0, .slice none 0 0, .int .i64 0, .slice none 0 0, .int .i64 0, .slice none 0 0, .int .i64 0, .slice none 0 0, .int .i64 0, .slice none 0 0, .int .i64 0, .slice none 0 0, .int .i64 0, .slice none 0 0, .int .i64 0, .slice none 0 0, .int .i64 0, .slice none 0 0, .int .i64 0, .slice none 0 0, .int .i64 0, .slice none 0 0, .int .i64 0, .slice none 0 0, .int .i64 0, .slice none 0 0, .int .i64 0] 166) ∧ W1.heap[w.heap.size + 1]? = some (.cells #[.string ⟨#[100, 105, 118]⟩] 9) ∧ W1.heap[w.heap.size + 2]? = some (.cells #[.string ⟨#[112]⟩] 9) ∧ W1.heap[w.heap.size + 3]? = some (.cells #[.string ⟨#[104, 49]⟩] 9) ∧ W1.heap[w.heap.size + 4]? = some (.cells #[.string ⟨#[104, 50]⟩] 9) ∧ W1.heap[w.heap.size + 5]? = some (.cells #[.string ⟨#[104, 51]⟩] 9) ∧ W1.heap[w.heap.size + 6]? = some (.cells #[.string ⟨#[98, 108, 111, 99, 107, 113, 117, 111, 116, 101]⟩] 9) ∧ W1.heap[w.heap.size + 7]? = some (.cells #[.string ⟨#[117, 108]⟩] 9) ∧ W1.heap[w.heap.size + 8]? = some (.cells #[.string ⟨#[111, 108]⟩] 9) ∧ W1.heap[w.heap.size + 9]? = some (.cells #[.string ⟨#[108, 105]⟩] 9) ∧ W1.heap[w.heap.size + 10]? = some (.cells #[.string ⟨#[97]⟩] 9) ∧ W1.heap[w.heap.size + 11]? = some (.cells #[.string ⟨#[98]⟩, .string ⟨#[115, 116, 114, 111, 110, 103]⟩] 9) ∧ W1.heap[w.heap.size + 12]? = some (.cells #[.string ⟨#[105]⟩, .string ⟨#[101, 109]⟩] 9) ∧ W1.heap[w.heap.size + 13]? = some (.cells #[.string ⟨#[117]⟩, .string ⟨#[105, 110, 115]⟩] 9) ∧ W1.heap[w.heap.size + 14]? = some (.cells #[.string ⟨#[115]⟩, .string ⟨#[115, 116, 114, 105, 107, 101]⟩, .string ⟨#[100, 101, 108]⟩] 9) ∧ W1.heap[w.heap.size + 15]? = some (.cells #[.string ⟨#[115, 112, 97, 110]⟩] 9) ∧ W1.heap[w.heap.size + 16]? = some (.cells #[.string ⟨#[98, 114]⟩] 9) :=
 ⟨_, rfl, (((((((((((((((((Below.refl _ _).alloc (Nat.le_refl _) _).alloc (by simp) _).alloc (by simp; omega) _).alloc (by simp; omega) _).alloc (by simp; omega) _).alloc (by simp; omega) _).alloc (by simp; omega) _).alloc (by simp; omega) _).alloc (by simp; omega) _).alloc (by simp; omega) _).alloc (by simp; omega) _).alloc (by simp; omega) _).alloc (by simp; omega) _).alloc (by simp; omega) _).alloc (by simp; omega) _).alloc (by simp; omega) _).alloc (by simp; omega) _, zZ _ _ (zZ _ _ (zZ _ _ (zZ _ _ (zZ _ _ (zZ _ _ (zZ _ _ (zZ _ _ (zZ _ _ (zZ _ _ (zZ _ _ (zZ _ _ (zZ _ _ (zZ _ _ (zZ _ _ (zZ _ _ (qG _ _ rfl)))))))))))))))), zZ _ _ (zZ _ _ (zZ _ _ (zZ _ _ (zZ _ _ (zZ _ _ (zZ _ _ (zZ _ _ (zZ _ _ (zZ _ _ (zZ _ _ (zZ _ _ (zZ _ _ (zZ _ _ (zZ _ _ (qG _ _ (by simp)))))))))))))))), zZ _ _ (zZ _ _ (zZ _ _ (zZ _ _ (zZ _ _ (zZ _ _ (zZ _ _ (zZ _ _ (zZ _ _ (zZ _ _ (zZ _ _ (zZ _ _ (zZ _ _ (zZ _ _ (qG _ _ (by simp))))))))))))))), zZ _ _ (zZ _ _ (zZ _ _ (zZ _ _ (zZ _ _ (zZ _ _ (zZ _ _ (zZ _ _ (zZ _ _ (zZ _ _ (zZ _ _ (zZ _ _ (zZ _ _ (qG _ _ (by simp)))))))))))))), zZ _ _ (zZ _ _ (zZ _ _ (zZ _ _ (zZ _ _ (zZ _ _ (zZ _ _ (zZ _ _ (zZ _ _ (zZ _ _ (zZ _ _ (zZ _ _ (qG _ _ (by simp))))))))))))), zZ _ _ (zZ _ _ (zZ _ _ (zZ _ _ (zZ _ _ (zZ _ _ (zZ _ _ (zZ _ _ (zZ _ _ (zZ _ _ (zZ _ _ (qG _ _ (by simp)))))))))))), zZ _ _ (zZ _ _ (zZ _ _ (zZ _ _ (zZ _ _ (zZ _ _ (zZ _ _ (zZ _ _ (zZ _ _ (zZ _ _ (qG _ _ (by simp))))))))))), zZ _ _ (zZ _ _ (zZ _ _ (zZ _ _ (zZ _ _ (zZ _ _ (zZ _ _ (zZ _ _ (zZ _ _ (qG _ _ (by simp)))))))))), zZ _ _ (zZ _ _ (zZ _ _ (zZ _ _ (zZ _ _ (zZ _ _ (zZ _ _ (zZ _ _ (qG _ _ (by simp))))))))), zZ _ _ (zZ _ _ (zZ _ _ (zZ _ _ (zZ _ _ (zZ _ _ (zZ _ _ (qG _ _ (by simp)))))))), zZ _ _ (zZ _ _ (zZ _ _ (zZ _ _ (zZ _ _ (zZ _ _ (qG _ _ (by simp))))))), zZ _ _ (zZ _ _ (zZ _ _ (zZ _ _ (zZ _ _ (qG _ _ (by simp)))))), zZ _ _ (zZ _ _ (zZ _ _ (zZ _ _ (qG _ _ (by simp))))), zZ _ _ (zZ _ _ (zZ _ _ (qG _ _ (by simp)))), zZ _ _ (zZ _ _ (qG _ _ (by simp))), zZ _ _ (qG _ _ (by simp)), qG _ _ (by simp)⟩
theorem results_tagtab {fn : Func} {p : Tmp} (h : fn.results = #[.cell p 166]) (tmps : Array Value) (w : World) (B : Nat) (vs : Array Value) (hp : tmps.getD p undef = .pointer (some ⟨B, 0, none⟩))
  (hB : w.heap[B]? = some (.cells vs 166)) (hs : (Tryz.prog.info? 166).map (·.size) = some vs.size) : (results fn tmps).run Tryz.prog w = .ok (.agg vs) w := by
 have h1 := run_loadVar_row (P := Tryz.prog) w B 166 166 _ _ _ hB Tryz.underlying166 rfl hs
 have hp' : tmps[p]?.getD undef = .pointer (some ⟨B, 0, none⟩) := by simpa using hp
 simp [results, h, hp', asAddr, h1]
theorem tag_objs {w W : World} (h0 : W.heap[w.heap.size + 1]? = some (.cells #[.string ⟨#[100, 105, 118]⟩] 9)) (h1 : W.heap[w.heap.size + 2]? = some (.cells #[.string ⟨#[112]⟩] 9)) (h2 : W.heap[w.heap.size + 3]? = some (.cells #[.string ⟨#[104, 49]⟩] 9)) (h3 : W.heap[w.heap.size + 4]? = some (.cells #[.string ⟨#[104, 50]⟩] 9)) (h4 : W.heap[w.heap.size + 5]? = some (.cells #[.string ⟨#[104, 51]⟩] 9)) (h5 : W.heap[w.heap.size + 6]? = some (.cells #[.string ⟨#[98, 108, 111, 99, 107, 113, 117, 111, 116, 101]⟩] 9)) (h6 : W.heap[w.heap.size + 7]? = some (.cells #[.string ⟨#[117, 108]⟩] 9)) (h7 : W.heap[w.heap.size + 8]? = some (.cells #[.string ⟨#[111, 108]⟩] 9)) (h8 : W.heap[w.heap.size + 9]? = some (.cells #[.string ⟨#[108, 105]⟩] 9)) (h9 : W.heap[w.heap.size + 10]? = some (.cells #[.string ⟨#[97]⟩] 9)) (h10 : W.heap[w.heap.size + 11]? = some (.cells #[.string ⟨#[98]⟩, .string ⟨#[115, 116, 114, 111, 110, 103]⟩] 9)) (h11 : W.heap[w.heap.size + 12]? = some (.cells #[.string ⟨#[105]⟩, .string ⟨#[101, 109]⟩] 9)) (h12 : W.heap[w.heap.size + 13]? = some (.cells #[.string ⟨#[117]⟩, .string ⟨#[105, 110, 115]⟩] 9)) (h13 : W.heap[w.heap.size + 14]? = some (.cells #[.string ⟨#[115]⟩, .string ⟨#[115, 116, 114, 105, 107, 101]⟩, .string ⟨#[100, 101, 108]⟩] 9)) (h14 : W.heap[w.heap.size + 15]? = some (.cells #[.string ⟨#[115, 112, 97, 110]⟩] 9)) (h15 : W.heap[w.heap.size + 16]? = some (.cells #[.string ⟨#[98, 114]⟩] 9)) : ∀ (k : Nat) (o : Obj), tagObjs[k]? = some o → W.heap[w.heap.size + (k + 1)]? = some o := fun k o hk => by
 have hk16 : k < 16 := (List.getElem?_eq_some_iff.1 hk).1
 match k, hk16, hk with
 | 0, _, hk => cases hk; exact h0
 | 1, _, hk => cases hk; exact h1
 | 2, _, hk => cases hk; exact h2
 | 3, _, hk => cases hk; exact h3
 | 4, _, hk => cases hk; exact h4
 | 5, _, hk => cases hk; exact h5
 | 6, _, hk => cases hk; exact h6
 | 7, _, hk => cases hk; exact h7
 | 8, _, hk => cases hk; exact h8
 | 9, _, hk => cases hk; exact h9
 | 10, _, hk => cases hk; exact h10
 | 11, _, hk => cases hk; exact h11
 | 12, _, hk => cases hk; exact h12
 | 13, _, hk => cases hk; exact h13
 | 14, _, hk => cases hk; exact h14
 | 15, _, hk => cases hk; exact h15
set_option maxRecDepth 100000 in
theorem tagTable_any (w : World) : Calls Tryz.prog 201 #[] w fun e w' => e = .returned (.agg (tagV w.heap.size)) ∧ Below w.heap.size w w' ∧ ∀ (k : Nat) (o : Obj), tagObjs[k]? = some o → w'.heap[w.heap.size + (k + 1)]? = some o := by
 obtain ⟨W1, hW1, hB, ht, h0, h1, h2, h3, h4, h5, h6, h7, h8, h9, h10, h11, h12, h13, h14, h15⟩ := tag_chain w
 have HO := Lib.hid (tag_objs h0 h1 h2 h3 h4 h5 h6 h7 h8 h9 h10 h11 h12 h13 h14 h15)
 have HT := Lib.hid ht
 have HB := Lib.hid hB
 have HW := Lib.hid hW1
 clear hW1 ht hB h0 h1 h2 h3 h4 h5 h6 h7 h8 h9 h10 h11 h12 h13 h14 h15
 go_enter Tryz.func201, Tryz.ntmps201
 go_wp2_with (first
  | (refine wpList_build rfl 166 _ rfl (by kernel_rfl) ?_; rw [HW.out]
     refine wpList_store_row rfl 166 _ _ rfl w.heap.size (tagV w.heap.size) (by kernel_rfl) (by kernel_rfl) 166 _ HT.out (by kernel_rfl) (by kernel_rfl) (by kernel_rfl) ?_
     generalize hact : Act.put _ _ _ = a9
     have ha9 : a9.tmps.getD 0 undef = .pointer (some ⟨w.heap.size, 0, none⟩) := by rw [← hact]; kernel_rfl
     have hd9 : a9.defers = [] := by rw [← hact]; kernel_rfl
     clear hact
     refine wpList_nil ?_
     have hW := setRow_heap W1 w.heap.size _ (tagV w.heap.size) 166 _ HT.out
     simp only [Exit.then]
     refine ‹∀ (a : Act) (w : World), Code.wp _ _ _ a w → _› _ _ ?_
     refine wp_ret ?_
     refine bodyPost_ret (results_tagtab rfl _ _ w.heap.size _ ha9 hW (by kernel_rfl)) hd9 ?_
     exact ⟨rfl, setRow_below HB.out (Nat.le_refl _), fun k o hk => by rw [setRow_heap_ne _ _ _ (by omega)]; exact HO.out k o hk⟩))
end Go.Proofs.YtcliojeoindceaaGreatDoor
namespace Go.Proofs.Qw
open Go.RowKit Go.Proofs.YtcliojeoindceaaGreatDoor
open _root_.List renaming getElem?_eq_some_iff → zK
def putT (D : DataW Unit) (x : List UInt8 × Int) : DataW Unit := D.put (.string x.1) (.lit (.int .i64 x.2))
def mapT (n : Nat) : DataW Unit := (tagsT.take n).foldl putT (.map [])
theorem mapT_next {n : Nat} {x : List UInt8 × Int} (h : tagsT[n]? = some x) : mapT (n + 1) = putT (mapT n) x := by
 unfold mapT
 rw [take_some h, List.foldl_append]
 rfl
theorem isMap_fold : ∀ (xs : List (List UInt8 × Int)) (D : DataW Unit), Maps.IsMap D → Maps.IsMap (xs.foldl putT D)
 | [], _, h => h
 | _ :: xs, _, h => isMap_fold xs _ (h.put _ _)
theorem at_fold {l : List UInt8} : ∀ (xs : List (List UInt8 × Int)) (D : DataW Unit) (z : DataW Unit), (∀ x ∈ xs, x.1 ≠ l) → (xs.foldl putT D).atKey (.string l) z = D.atKey (.string l) z ∧ Maps.has (xs.foldl putT D) (.string l) = Maps.has D (.string l)
 | [], _, _, _ => ⟨rfl, rfl⟩
 | x :: xs, D, z, h => by
  have hne : (Lit.string l) ≠ Lit.string x.1 := fun e => h x (List.mem_cons_self ..) (Lit.string.inj e).symm
  obtain ⟨h1, h2⟩ := at_fold xs (putT D x) z (fun y hy => h y (List.mem_cons_of_mem _ hy))
  exact ⟨h1.trans (Maps.atKey_put_other hne _ _), h2.trans (Maps.has_put_other hne _)⟩
theorem key_string (l : List UInt8) : WideAt.IsKeyLit (Lit.string l) := trivial
theorem mapT_at (l : List UInt8) : ((mapT 21).atKey (.string l) (.lit (.int .i64 0)) = .lit (.int .i64 (((tagsT.find? fun x => decide (x.1 = l)).map (·.2)).getD 0))) ∧ Maps.has (mapT 21) (.string l) = (tagsT.find? fun x => decide (x.1 = l)).isSome := by
 have hm : mapT 21 = tagsT.foldl putT (.map []) := rfl
 rw [hm]
 by_cases h : ∃ x ∈ tagsT, x.1 = l
 ·obtain ⟨x, hx, rfl⟩ := h
  obtain ⟨i, hi⟩ := List.getElem?_of_mem hx
  have hil : i < 21 := (zK.1 hi).1
  have H : ∀ i : Fin 21, ((tagsT.drop (i.val + 1)).all fun y => decide (y.1 ≠ (tagsT[i.val]'i.isLt).1)) = true ∧ (tagsT.find? fun y => decide (y.1 = (tagsT[i.val]'i.isLt).1)) = some (tagsT[i.val]'i.isLt) := by decide +kernel
  obtain ⟨H1, H2⟩ := H ⟨i, hil⟩
  have hxe : tagsT[i]'hil = x := (zK.1 hi).2
  simp only [hxe] at H1 H2
  rw [H2]
  have e : tagsT = tagsT.take i ++ x :: tagsT.drop (i + 1) := by
   rw [← zK.1 hi |>.2, List.getElem_cons_drop, List.take_append_drop]
  have hd : ∀ y ∈ tagsT.drop (i + 1), y.1 ≠ x.1 := fun y hy => of_decide_eq_true (List.all_eq_true.1 H1 y hy)
  have ef : tagsT.foldl putT (.map []) = (tagsT.drop (i + 1)).foldl putT (putT ((tagsT.take i).foldl putT (.map [])) x) := by
   conv => lhs; rw [e, List.foldl_append, List.foldl_cons]
  rw [ef]
  obtain ⟨h1, h2⟩ := at_fold (tagsT.drop (i + 1)) (putT ((tagsT.take i).foldl putT (.map [])) x) (.lit (.int .i64 0)) hd
  have hM := isMap_fold (tagsT.take i) (.map []) Maps.isMap_empty
  exact ⟨h1.trans (Maps.atKey_put_same hM (key_string _) _ _), h2.trans (Maps.has_put_same hM (key_string _) _)⟩
 ·have hn : ∀ x ∈ tagsT, x.1 ≠ l := fun x hx e => h ⟨x, hx, e⟩
  have hf : (tagsT.find? fun x => decide (x.1 = l)) = none := List.find?_eq_none.2 (fun x hx => by simpa using hn x hx)
  rw [hf]
  obtain ⟨h1, h2⟩ := at_fold tagsT (.map []) (.lit (.int .i64 0)) hn
  exact ⟨h1, h2⟩
def offT (k : Nat) : Nat := [0, 0, 1, 2, 3, 4, 5, 6, 7, 8, 9, 10, 12, 14, 16, 19, 20, 21].getD k 0
def lenT (k : Nat) : Nat := [0, 1, 1, 1, 1, 1, 1, 1, 1, 1, 1, 2, 2, 2, 3, 1, 1].getD k 0
theorem offT_next {k : Nat} (h : k < 17) : offT (k + 1) = offT k + lenT k := by
 have H : ∀ k : Fin 17, offT (k.val + 1) = offT k.val + lenT k.val := by decide
 exact H ⟨k, h⟩
theorem offT_lt {k m : Nat} (h : k < 17) (hm : m < lenT k) : offT k + m < 21 ∧ m < 3 := by
 have H : ∀ k : Fin 17, offT k.val + lenT k.val ≤ 21 ∧ lenT k.val ≤ 3 := by decide
 have := H ⟨k, h⟩
 constructor
 ·have := this.1; simp only at this; omega
 ·have := this.2; simp only at this; omega
theorem rowT_at {k m : Nat} (h : k < 17) (hm : m < lenT k) : ∃ nm, tagsT[offT k + m]? = some (nm, (k : Int)) ∧ nm.length ≤ 10 ∧ ∃ cs : Array Value, tagObjs[k - 1]? = some (.cells cs 9) ∧ cs[m]? = some (.string ⟨nm.toArray⟩) ∧ 1 ≤ k := by
 have hm3 := (offT_lt h hm).2
 have e1 : k = 0 ∨ k = 1 ∨ k = 2 ∨ k = 3 ∨ k = 4 ∨ k = 5 ∨ k = 6 ∨ k = 7 ∨ k = 8 ∨ k = 9 ∨ k = 10 ∨ k = 11 ∨ k = 12 ∨ k = 13 ∨ k = 14 ∨ k = 15 ∨ k = 16 := by omega
 have e2 : m = 0 ∨ m = 1 ∨ m = 2 := by omega
 clear h hm3
 rcases e1 with rfl | rfl | rfl | rfl | rfl | rfl | rfl | rfl | rfl | rfl | rfl | rfl | rfl | rfl | rfl | rfl | rfl <;> rcases e2 with rfl | rfl | rfl <;> first | exact absurd hm (by decide) | exact ⟨_, rfl, by decide, _, rfl, rfl, by decide⟩
end Go.Proofs.Qw
namespace Go.Proofs.YtcliojeoindceaaGreatDoor
open Go.RowKit
open Go.Proofs.Qw
open _root_.Go.Proofs.Tryz renaming prog → zV
theorem tagLow1_any (c : Int) (w : World) (h1 : 0 ≤ c) (h2 : c ≤ 1114111) :
  Calls zV 291 #[.int .i32 c] w fun e w' => e = .returned (.int .i32 (lowR c)) ∧ w' = w := by
 have e1 : ∀ c : Int, 0 ≤ c → c ≤ 1114111 → IntKind.i32.wrap (c + 97) = c + 97 := fun c h1 h2 => IntWalk.i32_in _ (by omega)
 unfold lowR
 go_enter Tryz.func291, Tryz.ntmps291
 go_wp2_with fail
 all_goals
  go_ret
  refine ⟨?_, rfl⟩
  refine congrArg Ending.returned (int_eq ?_)
 all_goals first
  | rfl
  | (rw [if_pos ⟨by assumption, by assumption⟩]; rfl)
  | omega
  | (rw [if_neg (by omega)]; rfl)
theorem tagLow_grows (w : World) : MapGrows zV 291 #[] lowR w := fun W x hx _ => (tagLow1_any (x : Int) W (by omega) (by omega)).mono fun _ _ ⟨h1, h2⟩ => ⟨h1, h2 ▸ Below.refl _ _⟩
theorem tagLow_any (s : ByteArray) (w : World) (he : EnvT w) (hs : s.size ≤ 1000000) :
  Calls zV 252 #[.string s] w fun e w' => e = .returned (.string ⟨(Lib.mapD lowR s.data.toList).toArray⟩) ∧ Below w.heap.size w w' := by
 have HC : Hid (∀ W, EnvT W → Calls zV 132 #[.func (.func 291) #[] #[], .string s] W fun e w' => e = .returned (.string ⟨(Lib.mapD lowR s.data.toList).toArray⟩) ∧ Below W.heap.size W w') := Lib.hid fun W hW =>
  Tryz.strings_Map_grows 291 #[] (enters_of Tryz.func291 (by kernel_rfl) rfl) lowR s W (by omega) (tagLow_grows W) lowR_bound hW.2
 go_enter Tryz.func252, Tryz.ntmps252
 go_wp2_with (go_at_call 132; refine (HC.out _ he).mono ?_; rintro e w2 ⟨rfl, hb2⟩)
 go_ret
 exact ⟨rfl, hb2⟩
theorem qryLow1_any (c : Int) (w : World) (h1 : 0 ≤ c) (h2 : c ≤ 1114111) :
  Calls zV 133 #[.int .i32 c] w fun e w' => e = .returned (.int .i32 (lowR c)) ∧ w' = w := by
 have e1 : ∀ c : Int, 0 ≤ c → c ≤ 1114111 → IntKind.i32.wrap (c + 97) = c + 97 := fun c h1 h2 => IntWalk.i32_in _ (by omega)
 unfold lowR
 go_enter Tryz.func133, Tryz.ntmps133
 go_wp2_with fail
 all_goals
  go_ret
  refine ⟨?_, rfl⟩
  refine congrArg Ending.returned (int_eq ?_)
 all_goals first
  | rfl
  | (rw [if_pos ⟨by assumption, by assumption⟩]; rfl)
  | omega
  | (rw [if_neg (by omega)]; rfl)
theorem qryLow_grows (w : World) : MapGrows zV 133 #[] lowR w := fun W x hx _ => (qryLow1_any (x : Int) W (by omega) (by omega)).mono fun _ _ ⟨h1, h2⟩ => ⟨h1, h2 ▸ Below.refl _ _⟩
theorem qryLow_any (s : ByteArray) (w : World) (he : EnvT w) (hs : s.size ≤ 1000000) :
  Calls zV 67 #[.string s] w fun e w' => e = .returned (.string ⟨(Lib.mapD lowR s.data.toList).toArray⟩) ∧ Below w.heap.size w w' := by
 have HC : Hid (∀ W, EnvT W → Calls zV 132 #[.func (.func 133) #[] #[], .string s] W fun e w' => e = .returned (.string ⟨(Lib.mapD lowR s.data.toList).toArray⟩) ∧ Below W.heap.size W w') := Lib.hid fun W hW =>
  Tryz.strings_Map_grows 133 #[] (enters_of Tryz.func133 (by kernel_rfl) rfl) lowR s W (by omega) (qryLow_grows W) lowR_bound hW.2
 go_enter Tryz.func67, Tryz.ntmps67
 go_wp2_with (go_at_call 132; refine (HC.out _ he).mono ?_; rintro e w2 ⟨rfl, hb2⟩)
 go_ret
 exact ⟨rfl, hb2⟩
end Go.Proofs.YtcliojeoindceaaGreatDoor
namespace Go.Proofs.YtcliojeoindceaaGreatDoor
open Go.RowKit
open Go.Proofs.Qw
attribute [local go_sem] Oper.semAt_some
open _root_.Go.Lib renaming hid → zA
open _root_.Nat renaming le_refl → zC
open _root_.Go.RowKit.Below renaming refl → zE
open _root_.Go.Proofs.Tryz renaming prog → zV
def tagSl (n k : Nat) : Value := .slice (if k = 0 then none else some ⟨n + k, 0, none⟩) (lenT k) (lenT k)
def classT (k : Nat) : Int := [1, 2, 3, 3, 3, 3, 2, 2, 2, 3, 4, 4, 4, 4, 4, 4, 5].getD k 0
set_option maxRecDepth 100000 in
theorem tag_index (n : Nat) : ∀ k : Nat, k < 17 → ∀ w, (Instr.index 166 (.agg (tagV n)) (.int .i64 k)).run zV w = .ok (.agg #[tagSl n k, .int .i64 (classT k)]) w := fun k hk w => by
 have e1 : k = 0 ∨ k = 1 ∨ k = 2 ∨ k = 3 ∨ k = 4 ∨ k = 5 ∨ k = 6 ∨ k = 7 ∨ k = 8 ∨ k = 9 ∨ k = 10 ∨ k = 11 ∨ k = 12 ∨ k = 13 ∨ k = 14 ∨ k = 15 ∨ k = 16 := by omega
 clear hk
 rcases e1 with rfl | rfl | rfl | rfl | rfl | rfl | rfl | rfl | rfl | rfl | rfl | rfl | rfl | rfl | rfl | rfl | rfl <;> rfl
set_option maxRecDepth 100000 in
theorem tagNames_any (w : World) : Calls zV 251 #[] w fun e w' => e = .returned (.map (some w.heap.size)) ∧ w'.ownsMap zV 9 (plainElem zV 3) w.heap.size 21 (mapT 21) ∧ Below w.heap.size w w' := by
 have hmm := @run_makeMap zV
 have hW1 : (w.alloc (.map #[] 0)).ownsMap zV 9 (plainElem (H := Unit) zV 3) w.heap.size 0 (.map []) := World.ownsMap_made w _ _ _
 obtain ⟨W1, hWe⟩ : ∃ W1, w.alloc (.map #[] 0) = W1 := ⟨_, rfl⟩
 rw [hWe] at hW1
 have hB1 : Below w.heap.size w W1 := hWe ▸ (zE _ _).alloc (zC _) _
 have hz1 : W1.heap.size = w.heap.size + 1 := by rw [← hWe]; simp
 have HWe := zA hWe
 have HM := zA hW1
 have HB1 := zA hB1
 clear hWe hW1 hB1
 go_enter Tryz.func251, Tryz.ntmps251
 go_wp2_with (go_at_call 201; rw [HWe.out]; refine (tagTable_any _).mono ?_; rintro e w2 ⟨rfl, hb2, ho2⟩)
 have hIx : ∀ (k : Nat), k < 17 → ∀ X, (Instr.index 166 (.agg (tagV (w.heap.size + 1))) (.int .i64 k)).run zV X = .ok (.agg #[tagSl (w.heap.size + 1) k, .int .i64 (classT k)]) X := fun k hk X => tag_index _ k hk X
 have HIx := zA hIx
 have HO2 := zA ho2
 have HM2 : Hid (w2.ownsMap zV 9 (plainElem (H := Unit) zV 3) w.heap.size 0 (.map [])) := zA (HM.out.kept (grown_of_below hb2) (by simp))
 have HB2 := zA (HB1.out.trans (hb2.mono HB1.out.size))
 have HOb : Hid (∀ (k : Nat) (o : Obj), tagObjs[k]? = some o → w2.heap[w.heap.size + 1 + (k + 1)]? = some o) := zA fun k o hk => by rw [← hz1]; exact ho2 k o hk
 have hz2 := hb2.size
 clear hIx ho2 hb2 hmm
 go_loopw [8, 2, 3, 5, 15] (fun z _ _ _ _ wr => ∃ k : Nat, k ≤ 17 ∧ z = .int .i64 k ∧ Hid (wr.ownsMap zV 9 (plainElem (H := Unit) zV 3) w.heap.size (offT k) (mapT (offT k))) ∧ Hid (Below w.heap.size w wr) ∧ Hid (∀ (k : Nat) (o : Obj), tagObjs[k]? = some o → wr.heap[w.heap.size + 1 + (k + 1)]? = some o) ∧ w2.heap.size ≤ wr.heap.size) (fun z _ _ _ _ _ => 17 - (intOf z).toNat)
 case atStart => exact ⟨0, by omega, rfl, HM2, HB2, HOb, zC _⟩
 case round =>
  obtain ⟨k, hk, rfl, HMk, HBk, HOk, hzk⟩ := hrel
  by_cases hlt : k < 17
  ·have hix := HIx.out k hlt
   have i1 : (k : Int) < 17 := by omega
   unfold tagSl at hix
   obtain ⟨ad, had⟩ : ∃ ad, (if k = 0 then none else some (⟨w.heap.size + 1 + k, 0, none⟩ : Addr)) = ad := ⟨_, rfl⟩
   rw [had] at hix
   have HAD : Hid (0 < lenT k → ad = some ⟨w.heap.size + 1 + k, 0, none⟩) := zA fun h => by
    rw [← had, if_neg]
    rintro rfl
    exact absurd h (by decide)
   clear had
   obtain ⟨ln, hln⟩ : ∃ n, lenT k = n := ⟨_, rfl⟩
   rw [hln] at hix HAD
   obtain ⟨cl, hcl⟩ : ∃ c, classT k = c := ⟨_, rfl⟩
   rw [hcl] at hix
   clear hcl
   have HLN := zA hln
   have HLT := zA hlt
   clear hln hlt
   go_wp2_with fail
   obtain ⟨wa, hwa⟩ : ∃ wa, wr.alloc (.cells #[.slice ad ln ln, .int .i64 cl] 120) = wa := ⟨_, rfl⟩
   rw [hwa]
   have hba : Below wr.heap.size wr wa := hwa ▸ (zE _ _).alloc (zC _) _
   have HMa : Hid (wa.ownsMap zV 9 (plainElem (H := Unit) zV 3) w.heap.size (offT k + 0) (mapT (offT k + 0))) := zA (hwa ▸ HMk.out.alloc _)
   have hza := hba.size
   have HBa := zA (HBk.out.trans (hba.mono HBk.out.size))
   have HOa : Hid (∀ (k : Nat) (o : Obj), tagObjs[k]? = some o → wa.heap[w.heap.size + 1 + (k + 1)]? = some o) := zA fun k o hk => heap_below hba (HOk.out k o hk)
   clear hwa hba
   go_loopw [15, 5] (fun z _ wr => ∃ m : Nat, m ≤ ln ∧ z = .int .i64 m ∧ Hid (wr.ownsMap zV 9 (plainElem (H := Unit) zV 3) w.heap.size (offT k + m) (mapT (offT k + m))) ∧ Hid (Below w.heap.size w wr) ∧ Hid (∀ (k : Nat) (o : Obj), tagObjs[k]? = some o → wr.heap[w.heap.size + 1 + (k + 1)]? = some o) ∧ w2.heap.size ≤ wr.heap.size) (fun z _ _ => ln - (intOf z).toNat)
   case atStart => exact ⟨0, by omega, rfl, HMa, HBa, HOa, by omega⟩
   case round =>
    obtain ⟨m, hm, rfl, HMm, HBm, HOm, hzm⟩ := hrel
    by_cases hlt2 : m < ln
    ·have HLT2 := zA hlt2
     obtain ⟨nm, ht1, hn1, cs, ht2, ht3, hk1⟩ := rowT_at HLT.out (by rw [HLN.out]; exact hlt2 : m < lenT k)
     have had := HAD.out (by omega)
     subst had
     have hcell := HOm.out (k - 1) _ ht2
     rw [show w.heap.size + 1 + (k - 1 + 1) = w.heap.size + 1 + k by omega] at hcell
     obtain ⟨p1, f1⟩ := blk hcell
     have c1 : wr.cell? ⟨w.heap.size + 1 + k, m, none⟩ = some (.string ⟨nm.toArray⟩) := (p1 m).trans ht3
     have HN := zA (And.intro ht1 hn1)
     have j0 : (0 : Int) ≤ (m : Int) := Int.natCast_nonneg _
     have j1 : (m : Int) < (ln : Int) := by omega
     have hroom : offT k + m < maxLen := by
      have := (offT_lt HLT.out (by rw [HLN.out]; exact hlt2 : m < lenT k)).1
      unfold maxLen
      omega
     have hkw : (Lit.int .i64 (k : Int)).wf = true := by
      have H : ∀ k : Fin 17, (Lit.int .i64 (k.val : Int)).wf = true := by decide
      exact H ⟨k, HLT.out⟩
     have HUP := zA (And.intro hroom hkw)
     have hm3 : m < 3 := (offT_lt HLT.out (by rw [HLN.out]; exact hlt2 : m < lenT k)).2
     clear p1 f1 hcell ht1 ht2 ht3 hn1 hroom hkw
     go_wp2_with (first
      | (at_mapUpdate; go_must (refine wpList_mapUpdate_own _ rfl _ _ _ 214 rfl 9 3 (Maps.string_keyed Tryz.underlying9) Tryz.underlying214 (plainElem (H := Unit) zV 3) w.heap.size (offT k + m) (mapT (offT k + m)) rfl HMm.out HUP.out.1 (.string ⟨nm.toArray⟩) (.int .i64 k) (.string nm) rfl rfl (Go.WideMaps.keyOf_string_mk Tryz.underlying9 (by show nm.toArray.size ≤ maxLen; simp [maxLen]; have := HN.out.2; omega)) (.lit (.int .i64 k)) [] (plainElem_int Tryz.underlying3 HUP.out.2) ?_; intro w5 hown5 hg5)))
     go_roundw
     case rel =>
      refine ⟨m + 1, HLT2.out, by go_num, zA ?_, zA (HBm.out.grown hg5 (by have := HBm.out.size; omega) (fun j e => by cases e; exact zC _)), zA (fun j o h => (hg5.block _ (Array.getElem?_eq_some_iff.1 (HOm.out j o h)).1 (by intro e; have := Option.some.inj e; omega)).trans (HOm.out j o h)), by have := hg5.size; omega⟩
      rw [show offT k + (m + 1) = offT k + m + 1 from rfl, mapT_next HN.out.1]
      exact hown5
     case measure => have := HLT2.out; simp [intOf]; omega
    ·obtain rfl : m = ln := by omega
     have HMn : Hid (wr.ownsMap zV 9 (plainElem (H := Unit) zV 3) w.heap.size (offT (k + 1)) (mapT (offT (k + 1)))) := zA (by rw [offT_next HLT.out, HLN.out]; exact HMm.out)
     go_wp2_with fail
     go_roundw
     case rel => exact ⟨k + 1, HLT.out, by have := HLT.out; go_num, HMn, HBm, HOm, hzm⟩
     case measure => have := HLT.out; simp [intOf]; omega
  ·obtain rfl : k = 17 := by omega
   go_wp2_with fail
   go_ret
   exact ⟨rfl, HMk.out, HBk.out⟩
theorem encode_four (z : Int) : (Lib.encodeRune z).length ≤ 4 := by
 unfold Lib.encodeRune Lib.encodeRuneZ
 rw [List.length_map]
 repeat' split
 all_goals simp
theorem mapD_four (f : Int → Int) : ∀ (n : Nat) (l : List UInt8), l.length ≤ n → (Lib.mapD f l).length ≤ 4 * l.length
 | 0, l, hn => by
  have : l = [] := List.eq_nil_of_length_eq_zero (by omega)
  subst this
  simp [Lib.mapD_nil]
 | n + 1, l, hn => by
  by_cases hne : l = []
  ·subst hne
   simp [Lib.mapD_nil]
  ·have hw := Lib.decodeL_width l
   have hle := Lib.decodeL_le l hne
   have ih := mapD_four f n (l.drop (Lib.decodeL l).2) (by rw [List.length_drop]; omega)
   rw [List.length_drop] at ih
   rw [Lib.mapD_step f l hne, List.length_append]
   have hh : (if 0 ≤ f (Lib.decodeL l).1 then Lib.encodeRune (f (Lib.decodeL l).1) else []).length ≤ 4 := by
    split
    ·exact encode_four _
    ·simp
   omega
theorem find_like_of {α : Type} {p q : α → Bool} : ∀ (l : List α), (∀ x ∈ l, p x = q x) → l.find? p = l.find? q
 | [], _ => rfl
 | x :: l, h => by
  rw [List.find?_cons, List.find?_cons, h x (List.mem_cons_self ..), find_like_of l (fun y hy => h y (List.mem_cons_of_mem _ hy))]
theorem tagF_low (l : List UInt8) : (tagsT.find? fun x => decide (x.1 = Lib.mapD lowR l)) = tagsT.find? fun x => decide (x.1 = l.map lowB) := by
 refine find_like_of _ (fun x hx => ?_)
 have H : ∀ x ∈ tagsT, ∀ b ∈ x.1, b.toNat < 128 := by decide +kernel
 have := mapD_low l.length l x.1 (zC _) (H x hx)
 exact decide_eq_decide.2 ⟨fun e => (this.1 e.symm).symm, fun e => (this.2 e.symm).symm⟩
set_option maxRecDepth 100000 in
theorem tagFind_any (s : ByteArray) (w : World) (he : EnvT w) (hs : s.size ≤ 1000000) :
  Calls zV 163 #[.string s] w fun e w' => e = .returned (.tuple #[.int .i64 ((tagF s.data.toList).getD 0), .bool (tagF s.data.toList).isSome]) ∧ Below w.heap.size w w' := by
 obtain ⟨ky, hky⟩ : ∃ k, Lib.mapD lowR s.data.toList = k := ⟨_, rfl⟩
 have hkl : ky.length ≤ maxLen := by
  have h1 := mapD_four lowR s.data.toList.length s.data.toList (zC _)
  rw [hky] at h1
  have h2 : s.data.toList.length = s.size := Array.length_toList
  unfold maxLen
  omega
 have HL : Hid (∀ W, Below w.heap.size w W → Calls zV 252 #[.string s] W fun e w' => e = .returned (.string ⟨ky.toArray⟩) ∧ Below W.heap.size W w') := zA fun W hW => by
  have := tagLow_any s W (he.below hW) hs
  rw [hky] at this
  exact this
 have HT : Hid (tagF s.data.toList = (tagsT.find? fun x => decide (x.1 = ky)).map (·.2)) := zA (by
  unfold tagF
  rw [← tagF_low, hky])
 have HK := zA hkl
 clear hky hkl he
 go_enter Tryz.func163, Tryz.ntmps163
 go_wp2_with (first
  | (go_at_call 251; refine (tagNames_any _).mono ?_; rintro e w2 ⟨rfl, hown2, hb2⟩; have HO2 := zA hown2; clear hown2)
  | (go_at_call 252; refine (HL.out _ hb2).mono ?_; rintro e w3 ⟨rfl, hst3⟩; have HO3 := zA (HO2.out.kept (grown_of_below hst3) (by simp)); have hb3 := below_from hb2 hst3)
  | (at_lookup; go_must (refine wpList_lookup_own_ok_int _ rfl _ _ 214 rfl 9 3 .i64 (Maps.string_keyed Tryz.underlying9) Tryz.underlying214 Tryz.underlying3 (by rfl) w.heap.size 21 (mapT 21) rfl HO3.out (.string ⟨ky.toArray⟩) (.string ky) rfl (Go.WideMaps.keyOf_string_mk Tryz.underlying9 (by show ky.toArray.size ≤ maxLen; simpa using HK.out)) ?_; intro c hc _)))
 go_ret2
 obtain ⟨h1, h2⟩ := mapT_at ky
 rw [h1] at hc
 have hc' := Lit.int.inj (DataW.lit.inj hc)
 refine ⟨?_, hb3⟩
 rw [HT.out]
 refine congrArg Ending.returned (congrArg Value.tuple ?_)
 show #[Value.int .i64 c, Value.bool (Maps.has (mapT 21) (Lit.string ky))] = _
 rw [h2, ← hc'.2, Option.isSome_map]
theorem tagHeading_any (t : Int) (w : World) : Calls zV 164 #[.int .i64 t] w fun e w' => e = .returned (.int .i64 (if 3 ≤ t ∧ t ≤ 5 then t - 2 else 0)) ∧ Below w.heap.size w w' := by
 by_cases h : 3 ≤ t ∧ t ≤ 5
 ·rw [if_pos h]
  have : t = 3 ∨ t = 4 ∨ t = 5 := by omega
  rcases this with rfl | rfl | rfl
  all_goals
   go_enter Tryz.func164, Tryz.ntmps164
   go_wp2_with fail
   go_ret
   exact ⟨rfl, zE _ _⟩
 ·rw [if_neg h]
  rcases (show t < 3 ∨ (3 ≤ t ∧ 5 < t) by omega) with h | ⟨h1, h2⟩
  all_goals
   go_enter Tryz.func164, Tryz.ntmps164
   go_wp2_with fail
   go_ret
   exact ⟨rfl, zE _ _⟩
theorem tagLine_any (k : Int) (hk : 0 ≤ k ∧ k ≤ 3) (w : World) : Calls zV 58 #[.int .i64 k] w fun e w' => e = .returned (.tuple #[.int .i64 (k + 2), .bool true]) ∧ Below w.heap.size w w' := by
 have : k = 0 ∨ k = 1 ∨ k = 2 ∨ k = 3 := by omega
 rcases this with rfl | rfl | rfl | rfl
 all_goals
  go_enter Tryz.func58, Tryz.ntmps58
  go_wp2_with fail
  go_ret2
  exact ⟨rfl, zE _ _⟩
end Go.Proofs.YtcliojeoindceaaGreatDoor
namespace Go.Proofs.Qw
open Go.RowKit Go.Proofs.YtcliojeoindceaaGreatDoor
theorem idx_find {α : Type} (f : α → Bool) : ∀ (l : List α) (k : Nat), idxGo f k l = match l.findIdx? f with | some i => ((k + i : Nat) : Int) | none => -1
 | [], _ => rfl
 | x :: l, k => by
  rw [idxGo, List.findIdx?_cons]
  cases h : f x with
  | true => rw [if_pos rfl]; rfl
  | false =>
   rw [if_neg (by simp), idx_find f l (k + 1)]
   simp only [Bool.false_eq_true, if_false]
   cases l.findIdx? f with
   | none => rfl
   | some i => show ((k + 1 + i : Nat) : Int) = ((k + (i + 1) : Nat) : Int); omega
def findN (name : List UInt8) : Nat := (findQ name).getD 0
theorem find_idx (name : List UInt8) : idxGo (fun c : Cmd => decide (Lib.mapD lowR c.name = Lib.mapD lowR name)) 0 cmds = match findQ name with | some k => (k : Int) | none => -1 := by
 rw [idx_find]
 have e : cmds.findIdx? (fun c : Cmd => decide (Lib.mapD lowR c.name = Lib.mapD lowR name)) = findQ name := by
  unfold findQ
  have H : ∀ (l : List Cmd), (∀ c ∈ l, ∀ b ∈ c.name, b.toNat < 128) → l.findIdx? (fun c : Cmd => decide (Lib.mapD lowR c.name = Lib.mapD lowR name)) = l.findIdx? (fun c : Cmd => decide (c.name.map lowB = name.map lowB)) := fun l => by
   induction l with
   | nil => intro _; rfl
   | cons c l ih =>
    intro h
    rw [List.findIdx?_cons, List.findIdx?_cons, ih (fun c hc => h c (List.mem_cons_of_mem _ hc)), decide_eq_decide.2 (low_eq (h c (List.mem_cons_self ..)) name)]
  exact H cmds cmds_plain
 rw [e]
 cases findQ name with
 | none => rfl
 | some k => show ((0 + k : Nat) : Int) = _; rw [Nat.zero_add]
end Go.Proofs.Qw
namespace Go.Proofs.YtcliojeoindceaaGreatDoor
open Go.RowKit
open Go.Proofs.Qw
attribute [local go_sem] Oper.semAt_some
open _root_.Go.Lib renaming hid → zA
open _root_.Nat renaming le_refl → zC
open _root_.Go.RowKit.Below renaming refl → zE
open _root_.Go.BigFrame renaming wpQuiet_want → zI
open _root_.Go.Act renaming put → zU
open _root_.Go.Proofs.Tryz renaming prog → zV
open _root_.Go.Proofs.YtcliojeoindceaaGreatDoor renaming below_from → zX
open _root_.Go.Proofs.Qw renaming quiet_val → qL
set_option maxRecDepth 100000 in
theorem tab_at (n : Nat) {k : Nat} {c : Cmd} (h : cmds[k]? = some c) : (tabV n)[k * 4]? = some (.string ⟨c.name.toArray⟩) ∧ (tabV n)[k * 4 + 1]? = some (.string ⟨c.input.toArray⟩) ∧ (tabV n)[k * 4 + 2]? = some (.int .i64 c.data) ∧ ∃ g caps, (doesV n)[k]? = some (.func (.func g) #[] caps) ∧ (tabV n)[k * 4 + 3]? = some (.func (.func g) #[] caps) := by
 have hk := (List.getElem?_eq_some_iff.1 h).1
 have e1 : k = 0 ∨ k = 1 ∨ k = 2 ∨ k = 3 ∨ k = 4 ∨ k = 5 ∨ k = 6 ∨ k = 7 ∨ k = 8 ∨ k = 9 ∨ k = 10 ∨ k = 11 ∨ k = 12 ∨ k = 13 ∨ k = 14 ∨ k = 15 ∨ k = 16 := by have : k < 17 := hk; omega
 clear hk
 rcases e1 with rfl | rfl | rfl | rfl | rfl | rfl | rfl | rfl | rfl | rfl | rfl | rfl | rfl | rfl | rfl | rfl | rfl <;> (cases h; exact ⟨rfl, rfl, rfl, _, _, rfl, rfl⟩)
theorem qryFind1_any (c : Cmd) (g : Nat) (caps : Array Value) (name : ByteArray) (Bn : Nat) (w : World) (he : EnvT w) (hc : c.name.length ≤ 1000) (hs : name.size ≤ 1000000) (hB : w.heap[Bn]? = some (.cells #[.string name] 9)) :
  Calls zV 66 #[.agg #[.string ⟨c.name.toArray⟩, .string ⟨c.input.toArray⟩, .int .i64 c.data, .func (.func g) #[] caps], .pointer (some ⟨Bn, 0, none⟩)] w fun e w' => e = .returned (.bool (decide (Lib.mapD lowR c.name = Lib.mapD lowR name.data.toList))) ∧ Below w.heap.size w w' := by
 obtain ⟨a, ha⟩ : ∃ a, Lib.mapD lowR c.name = a := ⟨_, rfl⟩
 obtain ⟨b, hb⟩ : ∃ a, Lib.mapD lowR name.data.toList = a := ⟨_, rfl⟩
 have HL1 : Hid (∀ W, Below w.heap.size w W → Calls zV 67 #[.string ⟨c.name.toArray⟩] W fun e w' => e = .returned (.string ⟨a.toArray⟩) ∧ Below W.heap.size W w') := zA fun W hW => by
  have := qryLow_any ⟨c.name.toArray⟩ W (he.below hW) (by show c.name.toArray.size ≤ _; simp; omega)
  rw [show (⟨c.name.toArray⟩ : ByteArray).data.toList = c.name from rfl, ha] at this
  exact this
 have HL2 : Hid (∀ W, Below w.heap.size w W → Calls zV 67 #[.string name] W fun e w' => e = .returned (.string ⟨b.toArray⟩) ∧ Below W.heap.size W w') := zA fun W hW => by
  have := qryLow_any name W (he.below hW) hs
  rw [hb] at this
  exact this
 rw [ha, hb]
 obtain ⟨W1, hW1⟩ : ∃ W1, w.alloc (.cells #[.string ⟨c.name.toArray⟩, .string ⟨c.input.toArray⟩, .int .i64 c.data, .func (.func g) #[] caps] 64) = W1 := ⟨_, rfl⟩
 have hB1 : Below w.heap.size w W1 := hW1 ▸ (zE _ _).alloc (zC _) _
 have H1 := zA hB1
 have HF : Hid (∀ W, Below W1.heap.size W1 W → W.heap[w.heap.size]? = some (.cells #[.string ⟨c.name.toArray⟩, .string ⟨c.input.toArray⟩, .int .i64 c.data, .func (.func g) #[] caps] 64) ∧ W.heap[Bn]? = some (.cells #[.string name] 9)) := zA fun W hW => ⟨heap_below hW (hW1 ▸ heap_new _ _ rfl), heap_below hW (heap_below hB1 hB)⟩
 have hs1 := hB1.size
 have HW1 := zA hW1
 clear he ha hb hB hB1 hW1
 go_enter Tryz.func66, Tryz.ntmps66
 go_wp2_with fail
 rw [HW1.out]
 refine wp_region_grew W1.heap.size (by kernel_rfl) (by kernel_rfl) ?_
 refine zI (by kernel_rfl) (fun K hK => ?_)
 refine qL ?_ (fun W hW => ?_) (hK _ ?_)
 rotate_left 1
 ·skip
  go_simp
  try rfl
 clear hK
 clear K
 try simp only [zU, qI, qX, qY]
 refine zI (by kernel_rfl) (fun K hK => ?_)
 refine qL ?_ (fun W hW => ?_) (hK _ ?_)
 rotate_left 1
 ·skip
  go_simp
  try rfl
 clear hK
 clear K
 try simp only [zU, qI, qX, qY]
 refine zI (by kernel_rfl) (fun K hK => ?_)
 refine qL ?_ (fun W hW => ?_) (hK _ ?_)
 rotate_left 1
 ·obtain ⟨p0, f0⟩ := blk (HF.out _ hW).1
  go_simp
  try rfl
 clear hK
 clear K
 try simp only [zU, qI, qX, qY]
 refine zI (by kernel_rfl) (fun K hK => ?_)
 refine quiet_calls (f := ?_) (args := ?_) ?_ (fun W hW => ?_) (fun W hW => ?_) (hK _ ?_)
 rotate_left 3
 ·go_simp
  constructor <;> rfl
 ·refine (HL1.out _ (zX H1.out hW)).mono ?_
  rintro e W2 ⟨rfl, hbW⟩
  refine ⟨?_, zX hW hbW⟩
  rfl
 clear hK
 clear K
 try simp only [zU, qI, qX, qY]
 refine zI (by kernel_rfl) (fun K hK => ?_)
 refine qL ?_ (fun W hW => ?_) (hK _ ?_)
 rotate_left 1
 ·obtain ⟨p0, f0⟩ := blk (HF.out _ hW).2
  go_simp
  try rfl
 clear hK
 clear K
 try simp only [zU, qI, qX, qY]
 refine zI (by kernel_rfl) (fun K hK => ?_)
 refine quiet_calls (f := ?_) (args := ?_) ?_ (fun W hW => ?_) (fun W hW => ?_) (hK _ ?_)
 rotate_left 3
 ·go_simp
  constructor <;> rfl
 ·refine (HL2.out _ (zX H1.out hW)).mono ?_
  rintro e W2 ⟨rfl, hbW⟩
  refine ⟨?_, zX hW hbW⟩
  rfl
 clear hK
 clear K
 try simp only [zU, qI, qX, qY]
 refine zI (by kernel_rfl) (fun K hK => ?_)
 refine qL ?_ (fun W hW => ?_) (hK _ ?_)
 rotate_left 1
 ·skip
  go_simp
  try rfl
 clear hK
 clear K
 try simp only [zU, qI, qX, qY]
 refine zI (by kernel_rfl) (fun K hK => ?_)
 refine qL ?_ (fun W hW => ?_) (hK _ ?_)
 rotate_left 1
 ·skip
  go_simp
  try rfl
 clear hK
 clear K
 try simp only [zU, qI, qX, qY]
 refine wpQuiet_nil (fun X6 hstX6 => ?_)
 go_wp2_with fail
 go_ret
 refine ⟨?_, H1.out.trans (hstX6.mono hs1)⟩
 refine congrArg (fun b => Ending.returned (Value.bool b)) ?_
 by_cases e : a = b
 ·simp [e]
 ·simp [e]
theorem indexRow_any (b n : Nat) (f : Cmd → Bool) (g : Nat) (lb : Array Value) (eg : ∀ args w, (callFunc g args).run zV w = .ok (.enter g args) w) (w : World) (he : EnvT w) (hb : w.heap[b]? = some (.cells (tabV n) 65))
  (hf : ∀ (i : Nat) (c : Cmd) (h : Nat) (caps : Array Value) (W : World), cmds[i]? = some c → EnvT W → Below w.heap.size w W → Calls zV g (#[.agg #[.string ⟨c.name.toArray⟩, .string ⟨c.input.toArray⟩, .int .i64 c.data, .func (.func h) #[] caps]] ++ lb) W fun e w' => e = .returned (.bool (f c)) ∧ Below W.heap.size W w') :
  Calls zV 65 #[.slice (some ⟨b, 0, none⟩) 17 17, .func (.func g) #[] lb] w fun e w' => e = .returned (.int .i64 (idxGo f 0 cmds)) ∧ Below w.heap.size w w' := by
 have HF := zA hf
 have HBB := zA hb
 have HN : Hid (idxGo f 0 cmds = idxGo f 0 (cmds.drop 0)) := zA rfl
 obtain ⟨D, hD⟩ : ∃ D, cmds = D := ⟨_, rfl⟩
 have hDl : D.length = 17 := hD ▸ rfl
 have HTA : Hid (∀ (k : Nat) (c : Cmd), D[k]? = some c → (tabV n)[k * 4]? = some (.string ⟨c.name.toArray⟩) ∧ (tabV n)[k * 4 + 1]? = some (.string ⟨c.input.toArray⟩) ∧ (tabV n)[k * 4 + 2]? = some (.int .i64 c.data) ∧ ∃ g caps, (doesV n)[k]? = some (.func (.func g) #[] caps) ∧ (tabV n)[k * 4 + 3]? = some (.func (.func g) #[] caps)) := zA fun k c h => tab_at n (by rw [hD]; exact h)
 rw [hD] at HF HN
 rw [hD]
 have hlt := (Array.getElem?_eq_some_iff.1 hb).1
 clear hf hb hD
 generalize tabV n = TV at *
 go_enter Tryz.func65, Tryz.ntmps65
 go_wp2_with fail
 go_loopw [8] (fun i wr => ∃ k : Nat, k ≤ 17 ∧ i = .int .i64 k ∧ idxGo f 0 D = idxGo f k (D.drop k) ∧ Below w.heap.size w wr) (fun i _ => 17 - (intOf i).toNat)
 case atStart => exact ⟨0, Nat.zero_le _, rfl, HN.out, zE _ _⟩
 case round =>
  obtain ⟨k, hk, rfl, hg, hbw⟩ := hrel
  by_cases hlt2 : k < 17
  ·obtain ⟨l, hl, hd⟩ := getOf D k (by omega)
   obtain ⟨t0, t1, t2, h, caps, _, t3⟩ := HTA.out k l hl
   obtain ⟨p0, f0⟩ := blk (heap_below hbw HBB.out)
   have c0 := (p0 (k * 4)).trans t0
   have c1 := (p0 (k * 4 + 1)).trans t1
   have c2 := (p0 (k * 4 + 2)).trans t2
   have c3 := (p0 (k * 4 + 3)).trans t3
   obtain ⟨r, hr⟩ : ∃ r, f l = r := ⟨_, rfl⟩
   have HG : Hid (idxGo f 0 D = if r = true then (k : Int) else idxGo f (k + 1) (D.drop (k + 1))) := zA (by rw [hg, hd, idxGo, hr])
   have HC := zA (HF.out k l h caps wr hl (he.below hbw) hbw)
   have HLT := zA hlt2
   rw [hr] at HC
   have i1 : (k : Int) < 17 := by omega
   clear hd hl hg hr p0 f0 t0 t1 t2 t3
   go_wp2_with (go_at_fn g; refine HC.out.mono ?_; rintro e w1 ⟨rfl, hb1⟩; cases r)
   ·go_roundw
    case rel => exact ⟨k + 1, HLT.out, by go_num, HG.out, zX hbw hb1⟩
    case measure => have := HLT.out; simp [intOf]; omega
   ·go_ret
    refine ⟨?_, zX hbw hb1⟩
    rw [HG.out]
    rfl
  ·obtain rfl : k = 17 := by omega
   have HG : Hid (idxGo f 0 D = -1) := zA (by rw [hg, List.drop_eq_nil_of_le (by omega)]; rfl)
   clear hg
   go_wp2_with fail
   go_ret
   rw [HG.out]
   exact ⟨rfl, hbw⟩
set_option maxRecDepth 100000 in
theorem qryFind_any (name : ByteArray) (w : World) (he : EnvT w) (hs : name.size ≤ 1000000) :
  Calls zV 26 #[.string name] w fun e w' => e = .returned (.tuple #[.int .i64 (findN name.data.toList), .bool (findQ name.data.toList).isSome]) ∧ Below w.heap.size w w' := by
 obtain ⟨W1, hW1⟩ : ∃ W1, w.alloc (.cells #[.string name] 9) = W1 := ⟨_, rfl⟩
 have hB1 : Below w.heap.size w W1 := hW1 ▸ (zE _ _).alloc (zC _) _
 have hz1 : w.heap.size < W1.heap.size := by rw [← hW1]; simp
 have HN1 : Hid (∀ W, Below W1.heap.size W1 W → W.heap[w.heap.size]? = some (.cells #[.string name] 9)) := zA fun W hW => heap_below hW (hW1 ▸ heap_new _ _ rfl)
 have HE := zA (he.below hB1)
 have H1 := zA hB1
 have HW1 := zA hW1
 have HI : Hid (∀ (W : World) (b n : Nat), Below W1.heap.size W1 W → W.heap[b]? = some (.cells (tabV n) 65) → Calls zV 65 #[.slice (some ⟨b, 0, none⟩) 17 17, .func (.func 66) #[] #[.pointer (some ⟨w.heap.size, 0, none⟩)]] W fun e w' => e = .returned (.int .i64 (match findQ name.data.toList with | some k => (k : Int) | none => -1)) ∧ Below W.heap.size W w') := zA fun W b n hW hb => by
  have := indexRow_any b n (fun c => decide (Lib.mapD lowR c.name = Lib.mapD lowR name.data.toList)) 66 #[.pointer (some ⟨w.heap.size, 0, none⟩)] (enters_of Tryz.func66 (by kernel_rfl) rfl) W ((he.below hB1).below hW) hb
   (fun i c h caps W' hc hE hW' => qryFind1_any c h caps name w.heap.size W' hE (by
    have H : ∀ c ∈ cmds, c.name.length ≤ 1000 := by decide +kernel
    exact H c (List.mem_of_getElem? hc)) hs (HN1.out W' (zX hW hW')))
  rw [find_idx] at this
  exact this
 have hs1 := hB1.size
 clear hW1 hB1 he
 obtain ⟨r, hr⟩ : ∃ r, findQ name.data.toList = r := ⟨_, rfl⟩
 have HFN := zA (show findN name.data.toList = r.getD 0 by unfold findN; rw [hr])
 rw [hr] at HI ⊢
 rw [HFN.out]
 clear hr
 cases r
 ·go_enter Tryz.func26, Tryz.ntmps26
  go_wp2_with (first
   | (go_at_call 35; rw [HW1.out]; refine (table_any _).mono ?_; rintro e w2 ⟨rfl, hb2, _⟩)
   | (refine wpList_store_row rfl 65 _ _ rfl w2.heap.size (tabV W1.heap.size) rfl rfl 65 _ (heap_new _ _ rfl) (by kernel_rfl) (by kernel_rfl) (by kernel_rfl) ?_
      have ht3 := setRow_heap (w2.alloc (.cells Tryz.zeroCells65 65)) w2.heap.size _ (tabV W1.heap.size) 65 _ (heap_new _ _ rfl)
      obtain ⟨w3, hw3⟩ : ∃ w3, (w2.alloc (.cells Tryz.zeroCells65 65)).setRow w2.heap.size (tabV W1.heap.size) = w3 := ⟨_, rfl⟩
      have hst3 : Below w2.heap.size w2 w3 := hw3 ▸ setRow_below ((zE _ _).alloc (zC _) _) (zC _)
      rw [hw3] at ht3 ⊢
      have hb3 := zX hb2 hst3
      have HT3 := zA ht3
      clear hw3 ht3)
   | (go_at_call 65; refine (HI.out _ _ _ hb3 HT3.out).mono ?_; rintro e w4 ⟨rfl, hst4⟩; have hb4 := zX hb3 hst4))
  go_ret2
  exact ⟨rfl, H1.out.trans (hb4.mono hs1)⟩
 ·rename_i k
  have hk0 : ¬ (k : Int) < 0 := by omega
  go_enter Tryz.func26, Tryz.ntmps26
  go_wp2_with (first
   | (go_at_call 35; rw [HW1.out]; refine (table_any _).mono ?_; rintro e w2 ⟨rfl, hb2, _⟩)
   | (refine wpList_store_row rfl 65 _ _ rfl w2.heap.size (tabV W1.heap.size) rfl rfl 65 _ (heap_new _ _ rfl) (by kernel_rfl) (by kernel_rfl) (by kernel_rfl) ?_
      have ht3 := setRow_heap (w2.alloc (.cells Tryz.zeroCells65 65)) w2.heap.size _ (tabV W1.heap.size) 65 _ (heap_new _ _ rfl)
      obtain ⟨w3, hw3⟩ : ∃ w3, (w2.alloc (.cells Tryz.zeroCells65 65)).setRow w2.heap.size (tabV W1.heap.size) = w3 := ⟨_, rfl⟩
      have hst3 : Below w2.heap.size w2 w3 := hw3 ▸ setRow_below ((zE _ _).alloc (zC _) _) (zC _)
      rw [hw3] at ht3 ⊢
      have hb3 := zX hb2 hst3
      have HT3 := zA ht3
      clear hw3 ht3)
   | (go_at_call 65; refine (HI.out _ _ _ hb3 HT3.out).mono ?_; rintro e w4 ⟨rfl, hst4⟩; have hb4 := zX hb3 hst4))
  go_ret2
  exact ⟨rfl, H1.out.trans (hb4.mono hs1)⟩
end Go.Proofs.YtcliojeoindceaaGreatDoor
namespace Go.Proofs.Qw
open Go.RowKit Go.Proofs.YtcliojeoindceaaGreatDoor
def rowT (f : Lin → Option Lin) (s : St) (D : Doc) (i : Nat) : Doc := match s.lines[i]? with | some l => (match f l with | some l' => D.set i l' | none => D) | none => D
def foldT (f : Lin → Option Lin) (s : St) (is : List Nat) : Doc := is.foldl (rowT f s) s.lines
def lineOf (s : St) (i : Nat) : Lin := s.lines.getD i default
theorem foldT_snoc (f : Lin → Option Lin) (s : St) (is : List Nat) (i : Nat) : foldT f s (is ++ [i]) = rowT f s (foldT f s is) i := by simp [foldT]
theorem rowT_len (f : Lin → Option Lin) (s : St) (D : Doc) (i : Nat) : (rowT f s D i).length = D.length := by
 unfold rowT
 split
 ·split
  ·simp
  ·rfl
 ·rfl
theorem foldT_len (f : Lin → Option Lin) (s : St) (is : List Nat) : (foldT f s is).length = s.lines.length := by
 have H : ∀ (is : List Nat) (D : Doc), (is.foldl (rowT f s) D).length = D.length := fun is => by
  induction is with
  | nil => intro D; rfl
  | cons i is ih => intro D; rw [List.foldl_cons, ih, rowT_len]
 exact H is s.lines
theorem range_snoc (i n : Nat) : List.range' i (n + 1) = List.range' i n ++ [i + n] := by rw [List.range'_concat]; simp
theorem fold_turn {s : St} {i j : Nat} (h1 : (spanS s).1.line = (i : Int)) (h2 : (spanS s).2.line = (j : Int)) (hj : j < s.lines.length) (f : Lin → Option Lin) : ∀ n, i + n ≤ j + 1 → foldT f s (List.range' i n) = turnTo f s (i + n)
 | 0, _ => (turn_start h1 h2 f).symm
 | n + 1, h => by
  have hl : s.lines[i + n]? = some s.lines[i + n] := List.getElem?_eq_getElem (by omega)
  have hs : selI s (i + n) = true := by rw [sel_at h1 h2, decide_eq_true (by omega), decide_eq_true (by omega)]; rfl
  rw [range_snoc, foldT_snoc, fold_turn h1 h2 hj f n (by omega), show i + (n + 1) = (i + n) + 1 from rfl, turn_next hl, if_pos hs]
  unfold rowT
  rw [hl]
  simp only
  cases hf : f s.lines[i + n] with
  | some l' => rfl
  | none =>
   simp only [Option.getD_none]
   have ht : (turnTo f s (i + n))[i + n]? = some s.lines[i + n] := by
    rw [turn_at hl, if_neg (by simp)]
   apply List.ext_getElem?
   intro k
   by_cases hk : k = i + n
   ·subst hk
    rw [ht, List.getElem?_set_self (by rw [turn_len]; omega)]
   ·rw [List.getElem?_set_ne (by omega)]
theorem fold_turnD {s : St} {i j : Nat} (h1 : (spanS s).1.line = (i : Int)) (h2 : (spanS s).2.line = (j : Int)) (hij : i ≤ j) (hj : j < s.lines.length) (f : Lin → Option Lin) : foldT f s (List.range' i (j + 1 - i)) = turnD f s := by
 rw [fold_turn h1 h2 hj f (j + 1 - i) (by omega), show i + (j + 1 - i) = j + 1 by omega, turn_end h1 h2 hj]
theorem any_rows {s : St} {i j : Nat} (h1 : (spanS s).1.line = (i : Int)) (h2 : (spanS s).2.line = (j : Int)) (hj : j < s.lines.length) (p : Lin → Bool) : ∀ n, i + n ≤ j + 1 → (List.range' i n).any (fun k => p (lineOf s k)) = anyTo p s (i + n)
 | 0, _ => (any_start h1 h2 p).symm
 | n + 1, h => by
  have hl : s.lines[i + n]? = some s.lines[i + n] := List.getElem?_eq_getElem (by omega)
  have hs : selI s (i + n) = true := by rw [sel_at h1 h2, decide_eq_true (by omega), decide_eq_true (by omega)]; rfl
  rw [range_snoc, List.any_append, any_rows h1 h2 hj p n (by omega), show i + (n + 1) = (i + n) + 1 from rfl, any_next p hl, hs]
  simp [lineOf, List.getD_eq_getElem?_getD, hl]
theorem all_rows {s : St} {i j : Nat} (h1 : (spanS s).1.line = (i : Int)) (h2 : (spanS s).2.line = (j : Int)) (hj : j < s.lines.length) (p : Lin → Bool) : ∀ n, i + n ≤ j + 1 → (List.range' i n).all (fun k => p (lineOf s k)) = allTo p s (i + n)
 | 0, _ => (all_start h1 h2 p).symm
 | n + 1, h => by
  have hl : s.lines[i + n]? = some s.lines[i + n] := List.getElem?_eq_getElem (by omega)
  have hs : selI s (i + n) = true := by rw [sel_at h1 h2, decide_eq_true (by omega), decide_eq_true (by omega)]; rfl
  rw [range_snoc, List.all_append, all_rows h1 h2 hj p n (by omega), show i + (n + 1) = (i + n) + 1 from rfl, all_next p hl, hs]
  simp [lineOf, List.getD_eq_getElem?_getD, hl]
theorem any_rowsD {s : St} {i j : Nat} (h1 : (spanS s).1.line = (i : Int)) (h2 : (spanS s).2.line = (j : Int)) (hij : i ≤ j) (hj : j < s.lines.length) (p : Lin → Bool) : (List.range' i (j + 1 - i)).any (fun k => p (lineOf s k)) = anyTo p s s.lines.length := by
 rw [any_rows h1 h2 hj p (j + 1 - i) (by omega), show i + (j + 1 - i) = j + 1 by omega, any_end h1 h2 hj]
theorem all_rowsD {s : St} {i j : Nat} (h1 : (spanS s).1.line = (i : Int)) (h2 : (spanS s).2.line = (j : Int)) (hij : i ≤ j) (hj : j < s.lines.length) (p : Lin → Bool) : (List.range' i (j + 1 - i)).all (fun k => p (lineOf s k)) = allTo p s s.lines.length := by
 rw [all_rows h1 h2 hj p (j + 1 - i) (by omega), show i + (j + 1 - i) = j + 1 by omega, all_end h1 h2 hj]
def stepK (x : Option Int) (l : Lin) : Option Int := match x with | some k => if l.lists ≠ [] ∨ (0 ≤ k ∧ l.kind ≠ k) then none else some l.kind | none => none
def foldK (ls : List Lin) : Option Int := ls.foldl stepK (some (-1))
theorem foldK_snoc (ls : List Lin) (l : Lin) : foldK (ls ++ [l]) = stepK (foldK ls) l := by simp [foldK]
theorem stepK_none (ls : List Lin) : ls.foldl stepK none = none := by
 induction ls with
 | nil => rfl
 | cons l ls ih => exact ih
theorem foldK_prefix {a b : List Lin} (h : a <+: b) (ha : foldK a = none) : foldK b = none := by
 obtain ⟨c, rfl⟩ := h
 unfold foldK at ha ⊢
 rw [List.foldl_append, ha, stepK_none]
theorem foldK_run : ∀ (ls : List Lin) (k : Int), 0 ≤ k → (∀ l ∈ ls, 0 ≤ l.kind) → ls.foldl stepK (some k) = if ls.all (fun l => decide (l.lists = []) && decide (l.kind = k)) = true then some k else none
 | [], k, _, _ => rfl
 | l :: ls, k, hk, hl => by
  rw [List.foldl_cons, List.all_cons]
  by_cases h1 : l.lists = []
  ·by_cases h2 : l.kind = k
   ·have e : stepK (some k) l = some k := by
     show (if l.lists ≠ [] ∨ (0 ≤ k ∧ l.kind ≠ k) then none else some l.kind) = some k
     rw [if_neg (fun h => h.elim (fun h => h h1) (fun h => h.2 h2)), h2]
    rw [e, foldK_run ls k hk (fun x hx => hl x (List.mem_cons_of_mem _ hx))]
    simp [h1, h2]
   ·have e : stepK (some k) l = none := by
     show (if l.lists ≠ [] ∨ (0 ≤ k ∧ l.kind ≠ k) then none else some l.kind) = none
     rw [if_pos (.inr ⟨hk, h2⟩)]
    rw [e, stepK_none, if_neg (by simp [h2])]
  ·have e : stepK (some k) l = none := by
    show (if l.lists ≠ [] ∨ (0 ≤ k ∧ l.kind ≠ k) then none else some l.kind) = none
    rw [if_pos (.inl h1)]
   rw [e, stepK_none, if_neg (by simp [h1])]
theorem foldK_all (l : Lin) (ls : List Lin) (h : ∀ x ∈ l :: ls, 0 ≤ x.kind) : foldK (l :: ls) = if (l :: ls).all (fun x => decide (x.lists = []) && decide (x.kind = l.kind)) = true then some l.kind else none := by
 unfold foldK
 rw [List.foldl_cons, List.all_cons]
 by_cases h1 : l.lists = []
 ·have e : stepK (some (-1)) l = some l.kind := by
   show (if l.lists ≠ [] ∨ (0 ≤ (-1 : Int) ∧ l.kind ≠ -1) then none else some l.kind) = some l.kind
   rw [if_neg (fun h => h.elim (fun h => h h1) (fun h => absurd h.1 (by decide)))]
  rw [e, foldK_run ls l.kind (h l (List.mem_cons_self ..)) (fun x hx => h x (List.mem_cons_of_mem _ hx))]
  simp [h1]
 ·have e : stepK (some (-1)) l = none := by
   show (if l.lists ≠ [] ∨ (0 ≤ (-1 : Int) ∧ l.kind ≠ -1) then none else some l.kind) = none
   rw [if_pos (.inl h1)]
  rw [e, stepK_none, if_neg (by simp [h1])]
theorem kind_rows {s : St} (hm : mayS s = true) {i j : Nat} (h1 : (spanS s).1.line = (i : Int)) (h2 : (spanS s).2.line = (j : Int)) (hij : i ≤ j) (hj : j < s.lines.length) : kindB s = foldK ((List.range' i (j + 1 - i)).map (lineOf s)) := by
 have hk : ∀ k, k < s.lines.length → 0 ≤ (lineOf s k).kind := fun k hk => by
  have hl : s.lines[k]? = some s.lines[k] := List.getElem?_eq_getElem hk
  have := (mayL_parts ((mayD_iff.1 (mayS_at hm).1).2.2.2 _ (mem_of_at hl))).2.2.2.1
  unfold lineOf
  rw [List.getD_eq_getElem?_getD, hl]
  exact this
 have hli : lineAt s.lines (spanS s).1 = lineOf s i := by
  unfold lineAt lineOf
  rw [h1]
  rfl
 unfold kindB
 rw [if_pos hm, hli, ← all_rowsD h1 h2 hij hj (fun l => decide (l.lists = []) && decide (l.kind = (lineOf s i).kind))]
 obtain ⟨n, hn⟩ : ∃ n, j + 1 - i = n + 1 := ⟨j - i, by omega⟩
 rw [hn, show List.range' i (n + 1) = i :: List.range' (i + 1) n from rfl, List.map_cons, foldK_all _ _ (fun x hx => by
  rw [← List.map_cons, ← show List.range' i (n + 1) = i :: List.range' (i + 1) n from rfl] at hx
  obtain ⟨k, hk1, rfl⟩ := List.mem_map.1 hx
  have := List.mem_range'_1.1 hk1
  exact hk k (by omega))]
 congr 1
 rw [← List.map_cons, List.all_map]
 rfl
end Go.Proofs.Qw
namespace Go.Proofs.YtcliojeoindceaaGreatDoor
open Go.RowKit
open Go.Proofs.Qw
attribute [local go_sem] Oper.semAt_some
open _root_.Go.Lib renaming hid → zA
open _root_.And renaming intro → zB
open _root_.Nat renaming le_refl → zC
open _root_.Go.RowKit.Below renaming refl → zE
open _root_.Go renaming bodyPost_ret → zM
open _root_.Int renaming natCast_nonneg → zR
open _root_.List renaming length_append → zS
open _root_.Go.Proofs.Tryz renaming prog → zV
open _root_.Go.Proofs.Qw renaming rdOf_stable → qC
open _root_.Go.Proofs.Qw.SliceR renaming stable → qH, below → qJ
open _root_.Go.Proofs.Qw.Keeps renaming refl → qN, alloc → qO, drew → qP, set → qQ
open _root_.Go.Proofs.YtcliojeoindceaaGreatDoor renaming heap_set → qT
structure SelX (w0 : World) (S : Nat → Prop) (s : St) where
 i : Nat
 l : Lin
 la : Option Addr
 lc : Nat
 ca : Option Addr
 cc : Nat
 row : s.lines[i]? = some l
 hl : IntsR false w0 S (.slice la l.lists.length lc) l.lists
 hc : CelsR false w0 S (.slice ca l.cells.length cc) l.cells
def selEnc {w0 : World} {S : Nat → Prop} {s : St} (x : SelX w0 S s) : Array Value := #[.int .i64 x.i, linV x.l (.slice x.la x.l.lists.length x.lc) (.slice x.ca x.l.cells.length x.cc)]
theorem blkSelected_any (va : Option Addr) (vn vc : Nat) (s : St) (w : World) :
  Calls zV 113 #[stV (.slice va vn vc) s] w fun e w' => e = .returned (.func (.func 196) #[] #[.pointer (some ⟨w.heap.size, 0, none⟩)]) ∧
   w' = w.alloc (.cells #[.slice va vn vc, .int .i64 s.anc.line, .int .i64 s.anc.col, .int .i64 s.foc.line, .int .i64 s.foc.col, .int .i64 s.on, .int .i64 s.off] 26) := by
 go_enter Tryz.func113, Tryz.ntmps113
 go_wp2_with fail
 go_ret
 exact ⟨rfl, rfl⟩
set_option maxRecDepth 200000 in
theorem selB_in (n l Bs base : Nat) (v : Value) (s : St) (i j : Nat) (S : Nat → Prop) (w0 W : World) (J Jx : List (SelX w0 S s) → World → Prop) (hv : LinsR w0 S v s.lines) (hb0 : Below w0.heap.size w0 W)
  (hbase : base ≤ Bs) (hbw : base ≤ W.heap.size) (hA : W.heap[Bs]? = some (.cells #[v, .int .i64 s.anc.line, .int .i64 s.anc.col, .int .i64 s.foc.line, .int .i64 s.foc.col, .int .i64 s.on, .int .i64 s.off] 26))
  (hi : (spanS s).1.line = (i : Int)) (hj : (spanS s).2.line = (j : Int)) (hij : i ≤ j) (hjl : j < s.lines.length) (hlen : s.lines.length ≤ 100000) (hJ : AbidesFrom W.heap.size J)
  (hY : ∀ (pre : List (SelX w0 S s)) (x : SelX w0 S s) W, J pre W → pre.length < 200000 → YieldAt Fence.wide (n - 1) zV l (selEnc x) W fun e W' =>
   (e = .returned (.bool true) ∧ J (pre ++ [x]) W' ∧ Kp w0.heap.size base W W') ∨ (e = .returned (.bool false) ∧ Jx (pre ++ [x]) W'))
  (h0 : J [] W) :
  CallsIn Fence.wide n zV 196 #[.func (.yield l) #[] #[], .pointer (some ⟨Bs, 0, none⟩)] W fun e W' => (∃ v, e = .returned v) ∧
   ((∃ ys : List (SelX w0 S s), ys.map (·.i) = List.range' i (j + 1 - i) ∧ J ys W') ∨ (∃ pre : List (SelX w0 S s), (pre.map (·.i) = List.range' i pre.length ∧ pre.length ≤ j + 1 - i) ∧ Jx pre W')) := by
 refine callsIn_of_wp Tryz.func196 rfl trivial ?_ rfl
 simp only [Tryz.ntmps196, List.size_toArray, List.length_cons, List.length_nil, Nat.reduceAdd, Nat.reduceSub, Array.replicate_succ, Array.replicate_zero, List.push_toArray, List.append_toArray, List.nil_append, List.cons_append]
 have hwf : ∀ f, Fence.wide.fn f := fun _ => trivial
 have hwd : Fence.wide.depth = none := rfl
 obtain ⟨va, vc, rfl, hvc, hvm, hx⟩ := lins_shape hv
 have HX := zA hx
 have HY := zA hY
 have HJA := zA hJ
 have HBS := zA hA
 have HB0 := zA hb0
 have HSp : Hid (∀ W, Calls zV 114 #[stV (.slice va s.lines.length vc) s] W fun e w' => e = .returned (.tuple #[.agg #[.int .i64 i, .int .i64 (spanS s).1.col], .agg #[.int .i64 j, .int .i64 (spanS s).2.col]]) ∧ Below W.heap.size W w') := zA fun W => by
  have := stSpan_any (.slice va s.lines.length vc) s W
  rw [hi, hj] at this
  exact this
 obtain ⟨ci, hci⟩ : ∃ c, (spanS s).1.col = c := ⟨_, rfl⟩
 obtain ⟨cj, hcj⟩ : ∃ c, (spanS s).2.col = c := ⟨_, rfl⟩
 rw [hci, hcj] at HSp
 obtain ⟨p1, f1⟩ := blk hA
 unfold maxLen at hvm
 clear hx hv hY hJ hA hi hj hci hcj
 gi_wp2_with (gi_at_call 114; refine (callsIn_wide.2 (HSp.out _)).mono ?_; rintro e W2 ⟨rfl, hb2⟩; have HB2 := zA hb2; clear hb2)
 obtain ⟨W3, hW3⟩ : ∃ W3, ((W2.alloc (.cells #[.int .i64 i, .int .i64 ci] 24)).alloc (.cells #[.int .i64 j, .int .i64 cj] 24)) = W3 := ⟨_, rfl⟩
 rw [hW3]
 have hb3 : Below W.heap.size W W3 := hW3 ▸ (HB2.out.alloc HB2.out.size _).alloc (by have := HB2.out.size; simp; omega) _
 have HF3 : Hid (W3.heap[W2.heap.size]? = some (.cells #[.int .i64 i, .int .i64 ci] 24) ∧ W3.heap[W2.heap.size + 1]? = some (.cells #[.int .i64 j, .int .i64 cj] 24)) := zA (hW3 ▸ ⟨heap_old _ _ (heap_new _ _ rfl), heap_new _ _ (by simp)⟩)
 have hz2 := HB2.out.size
 have HJ3 := zA (abides_below HJA.out h0 hb3)
 have HS3 := zA (heap_below hb3 HBS.out)
 have HB3 := zA (below_from HB0.out hb3)
 have hz3 := hb3.size
 have HZ3 := zA hz3
 clear hW3 hb3 h0 hb0 p1 f1
 gi_loopw [5] (fun z wr => ∃ (k : Nat) (pre : List (SelX w0 S s)), i ≤ k ∧ k ≤ j + 1 ∧ i + pre.length = k ∧ z = .int .i64 k ∧ Hid (pre.map (·.i) = List.range' i pre.length) ∧ J pre wr ∧ Below w0.heap.size w0 wr ∧ Hid (wr.heap[Bs]? = some (.cells #[.slice va s.lines.length vc, .int .i64 s.anc.line, .int .i64 s.anc.col, .int .i64 s.foc.line, .int .i64 s.foc.col, .int .i64 s.on, .int .i64 s.off] 26) ∧ wr.heap[W2.heap.size]? = some (.cells #[.int .i64 i, .int .i64 ci] 24) ∧ wr.heap[W2.heap.size + 1]? = some (.cells #[.int .i64 j, .int .i64 cj] 24)) ∧ W.heap.size ≤ wr.heap.size)
  (fun z _ => j + 1 - (intOf z).toNat)
 case atStart => exact ⟨i, [], zC _, by omega, rfl, rfl, zA rfl, HJ3.out, HB3.out, zA ⟨HS3.out, HF3.out⟩, HZ3.out⟩
 case round =>
  obtain ⟨k, pre, hk1, hk2, hpl, rfl, HP, hJs, hb1, HBL, hz1⟩ := hrel
  obtain ⟨p1, f1⟩ := blk HBL.out.1
  obtain ⟨p2, f2⟩ := blk HBL.out.2.1
  obtain ⟨p3, f3⟩ := blk HBL.out.2.2
  by_cases hlt : k ≤ j
  ·obtain ⟨l0, hl0, _⟩ := getOf s.lines k (by omega)
   obtain ⟨b, o, la, lc, ca, cc, rfl, hAk⟩ := HX.out k l0 hl0
   obtain ⟨_, c0, c1, c2, c3, _, _⟩ := hAk.below hb1
   have i0 : (0 : Int) ≤ (k : Int) := zR _
   have i1 : (k : Int) < (s.lines.length : Int) := by omega
   have i2 : (k : Int) ≤ (j : Int) := by omega
   have hYY := HY.out pre ⟨k, l0, la, lc, ca, cc, hl0, hAk.listsR, hAk.cellsR⟩ wr hJs (by omega)
   have HNX : Hid (∀ w7, J (pre ++ [⟨k, l0, la, lc, ca, cc, hl0, hAk.listsR, hAk.cellsR⟩]) w7 → Kp w0.heap.size base wr w7 → ∃ (k' : Nat) (pre : List (SelX w0 S s)), i ≤ k' ∧ k' ≤ j + 1 ∧ i + pre.length = k' ∧ k' = k + 1 ∧ Hid (pre.map (·.i) = List.range' i pre.length) ∧ J pre w7 ∧ Below w0.heap.size w0 w7 ∧ Hid (w7.heap[Bs]? = some (.cells #[.slice (some ⟨b, o, none⟩) s.lines.length vc, .int .i64 s.anc.line, .int .i64 s.anc.col, .int .i64 s.foc.line, .int .i64 s.foc.col, .int .i64 s.on, .int .i64 s.off] 26) ∧ w7.heap[W2.heap.size]? = some (.cells #[.int .i64 i, .int .i64 ci] 24) ∧ w7.heap[W2.heap.size + 1]? = some (.cells #[.int .i64 j, .int .i64 cj] 24)) ∧ W.heap.size ≤ w7.heap.size) := zA (by
    intro w7 hj7 hk7
    refine ⟨k + 1, _, by omega, by omega, by simp; omega, rfl, zA ?_, hj7, hb1.trans hk7.below, zA ⟨hk7.cells _ _ hbase HBL.out.1 rfl, hk7.cells _ _ (by omega) HBL.out.2.1 rfl, hk7.cells _ _ (by omega) HBL.out.2.2 rfl⟩, Nat.le_trans hz1 hk7.below.size⟩
    rw [List.map_append, HP.out, zS, List.length_singleton, range_snoc]
    exact congrArg (List.range' i pre.length ++ ·) (by show [k] = [i + pre.length]; rw [hpl]))
   have HPX : Hid ((pre ++ [⟨k, l0, la, lc, ca, cc, hl0, hAk.listsR, hAk.cellsR⟩] : List (SelX w0 S s)).map (·.i) = List.range' i (pre ++ [⟨k, l0, la, lc, ca, cc, hl0, hAk.listsR, hAk.cellsR⟩] : List (SelX w0 S s)).length ∧ (pre ++ [⟨k, l0, la, lc, ca, cc, hl0, hAk.listsR, hAk.cellsR⟩] : List (SelX w0 S s)).length ≤ j + 1 - i) := zA ⟨by
    rw [List.map_append, HP.out, zS, List.length_singleton, range_snoc]
    exact congrArg (List.range' i pre.length ++ ·) (by show [k] = [i + pre.length]; rw [hpl]), by rw [zS, List.length_singleton]; omega⟩
   generalize (pre ++ [⟨k, l0, la, lc, ca, cc, hl0, hAk.listsR, hAk.cellsR⟩] : List (SelX w0 S s)) = pre2 at *
   unfold selEnc linV at hYY
   obtain ⟨fn, tmps, assign, body, hy, hR⟩ := hYY
   clear hJs
   gi_wp2_with fail
   refine hR.mono ?_
   rintro e w7 (⟨rfl, hJ7, hk7⟩ | ⟨rfl, hJx7⟩)
   ·gi_wp2_with fail
    obtain ⟨k', pre', g1, g2, g3, e3, g4, g5, g6, g7, g8⟩ := HNX.out w7 hJ7 hk7
    go_roundw
    case rel => exact ⟨k', pre', g1, g2, g3, by rw [e3]; go_num, g4, g5, g6, g7, g8⟩
    case measure => simp [intOf]; omega
   ·gi_wp2_with fail
    refine zM (results_none rfl _ _ _) rfl ?_
    exact ⟨⟨_, rfl⟩, .inr ⟨_, HPX.out, hJx7⟩⟩
  ·have i2 : ¬ (k : Int) ≤ (j : Int) := by omega
   gi_wp2_with fail
   go_end0
   refine ⟨⟨_, rfl⟩, .inl ⟨pre, ?_, hJs⟩⟩
   rw [HP.out]
   congr 1
   omega
def TurnP (n B : Nat) (l : Lin) (cv : Value) (w : World) (r : Option Lin) (e : Ending) (w' : World) : Prop :=
 e = .returned (.bool r.isSome) ∧ (∃ q k a m c, w'.heap[B]? = some (.cells #[.int .i64 q, .slice a m c, .int .i64 k, cv] 60) ∧ ∀ l', r = some l' → l'.quote = q ∧ l'.kind = k ∧ l'.lists.length = m ∧ IntsR true w' (fun b => n ≤ b) (.slice a m c) l'.lists ∧ l'.cells = l.cells) ∧
  (∀ b, b ≠ B → b < w.heap.size → (∀ cs, w.heap[b]? ≠ some (.cells cs 3)) → w'.heap[b]? = w.heap[b]?) ∧ w.heap.size ≤ w'.heap.size ∧ ∀ m, m ≤ n → m ≤ B → Below m w w'
set_option maxRecDepth 100000 in
theorem turnedP_any (g : Nat) (caps : Array Value) (r : Option Lin) (eg : ∀ args w, (callFunc g args).run zV w = .ok (.enter g args) w)
  (l : Lin) (la ca : Option Addr) (lc cc : Nat) (w w0 : World) (S : Nat → Prop) (hL : IntsR false w0 S (.slice la l.lists.length lc) l.lists) (hC : CelsR false w0 S (.slice ca l.cells.length cc) l.cells) (h0 : Below w0.heap.size w0 w)
  (he : EnvT w) (hs : l.lists.length ≤ 1000000 ∧ l.cells.length ≤ 1000000) (hh : ∀ c ∈ l.cells, c.href.length ≤ 1000000) (hm : mayL l = true)
  (HT : ∀ (n B : Nat) (la : Option Addr) (lc : Nat) (cv : Value) (W : World), Below w.heap.size w W → w.heap.size ≤ B → B < n → n ≤ W.heap.size → IntsR true W (fun b => n ≤ b) (.slice la l.lists.length lc) l.lists → W.heap[B]? = some (.cells #[.int .i64 l.quote, .slice la l.lists.length lc, .int .i64 l.kind, cv] 60) →
   Calls zV g (#[.pointer (some ⟨B, 0, none⟩)] ++ caps) W (TurnP n B l cv W r)) :
  Calls zV 229 #[linV l (.slice la l.lists.length lc) (.slice ca l.cells.length cc), .func (.func g) #[] caps] w (TurnSaid w r) := by
 obtain ⟨W1, hW1, hB, hz, hA1, hA2⟩ := two_lines w (.int .i64 l.quote) (.slice la l.lists.length lc) (.int .i64 l.kind) (.slice ca l.cells.length cc) (.int .i64 0) (.slice none 0 0) (.int .i64 0) (.slice none 0 0)
 have h01 : Below w0.heap.size w0 W1 := below_from h0 hB
 have HM := zA (lineMay_any l la ca lc cc W1 w0 S hL hC (he.below hB) h01 hh)
 rw [hm] at HM
 have HO : Hid (∀ W, Below w0.heap.size w0 W → Calls zV 134 #[linV l (.slice la l.lists.length lc) (.slice ca l.cells.length cc)] W fun e w' => ∃ a' b', e = .returned (linV l a' b') ∧ IntsR true w' (fun b => W.heap.size ≤ b) a' l.lists ∧ CelsR true w' (fun b => W.heap.size ≤ b) b' l.cells ∧ Below W.heap.size W w') := zA fun W hW => lineOwn_any l _ _ false false W w0 S hL hC hW hs
 have HG := zA HT
 have hs1 := hB.size
 have HB0 : Hid (∀ W, Below W1.heap.size W1 W → W.heap[w.heap.size]? = some (.cells #[.int .i64 l.quote, .slice la l.lists.length lc, .int .i64 l.kind, .slice ca l.cells.length cc] 60) ∧ W.heap[w.heap.size + 1]? = some (.cells #[.int .i64 0, .slice none 0 0, .int .i64 0, .slice none 0 0] 60)) := zA fun W hW => ⟨heap_below hW hA1, heap_below hW hA2⟩
 have H1 := zA hB
 have H01 := zA h01
 obtain ⟨p1, f1⟩ := blk hA1
 obtain ⟨p2, f2⟩ := blk hA2
 clear hL hC hs hB h0 HT hm he h01
 unfold linV at HO ⊢
 go_enter Tryz.func229, Tryz.ntmps229
 go_wp2_with (first | (go_at_call 131; refine HM.out.mono ?_; rintro e w2 ⟨rfl, hb2⟩; obtain ⟨hA3, hA4⟩ := HB0.out _ hb2; obtain ⟨q0, g0⟩ := blk hA3; obtain ⟨q1, g1⟩ := blk hA4) | (go_at_call 134; refine (HO.out _ (below_from H01.out hb2)).mono ?_; rintro e w3 ⟨a', b', rfl, ha', hb', hb3⟩; obtain ⟨a1, c1, rfl⟩ := ha'.slice; obtain ⟨a2, c2, rfl⟩ := hb'.slice; obtain ⟨hA5, hA6⟩ := HB0.out _ (below_from hb2 hb3); obtain ⟨p3, f3⟩ := blk hA5; obtain ⟨p4, f4⟩ := blk hA6))
 obtain ⟨Y, hY, hYB, hYs, hYo, hYb⟩ := set_four w3 w.heap.size 60 _ _ _ _ (.int .i64 l.quote) (.slice a1 l.lists.length c1) (.int .i64 l.kind) (.slice a2 l.cells.length c2) hA5
 have hx2 := below_from H1.out hb2
 have hx3 : Below w.heap.size w w3 := below_from hx2 hb3
 have hn3 : w.heap.size + 2 ≤ w2.heap.size := by have := hb2.size; omega
 have hle3 := hb3.size
 have hiY : IntsR true Y (fun b => w2.heap.size ≤ b) (.slice a1 l.lists.length c1) l.lists := qH (qC _) ha' (Keeps.only hYs hYo (by simp; omega)) (fun b h _ => h)
 have hcY : CelsR true Y (fun b => w2.heap.size ≤ b) (.slice a2 l.cells.length c2) l.cells := qH (qC _) hb' (Keeps.only hYs hYo (by simp; omega)) (fun b h _ => h)
 have hcl := hiY.len
 rw [hY]
 have hA7 : Y.heap[w.heap.size + 1]? = some (.cells #[.int .i64 0, .slice none 0 0, .int .i64 0, .slice none 0 0] 60) := (hYo _ (by omega)).trans hA6
 have hYx : Below w.heap.size w Y := hYb _ (zC _) w hx3
 refine (HG.out w2.heap.size w.heap.size a1 c1 (.slice a2 l.cells.length c2) Y hYx (zC _) (by omega) (by omega) hiY hYB).mono ?_
 rintro e w4 ⟨rfl, ⟨q, k, na, m, c, h4, hl4⟩, ho4, hz4, hb4⟩
 have hA8 := (ho4 (w.heap.size + 1) (by omega) (by omega) (fun cs e => by rw [hA7] at e; cases e)).trans hA7
 have hc4 : CelsR true w4 (fun b => w2.heap.size ≤ b) (.slice a2 l.cells.length c2) l.cells := SliceR.tagged (tagged_of 3 encCel) (by decide) hcY hz4 (fun b hb hz ht => ho4 b (by have hb : w2.heap.size ≤ b := hb; omega) hz ht) (fun b h _ => h)
 have hx4 : Below w.heap.size w w4 := hYx.trans (hb4 _ (by omega) (zC _))
 have HCC := zA hc4
 have HX4 := zA hx4
 clear hc4 hx4 hiY hcY hYB hYo hYb ha' hb' ho4 hb4 HG HO HM hx2 hx3 hYx
 obtain ⟨p5, f5⟩ := blk h4
 obtain ⟨p6, f6⟩ := blk hA8
 clear p1 f1 p2 f2 q0 g0 q1 g1 p3 f3 p4 f4 hY
 cases r with
 | none =>
  go_wp2_with fail
  refine zM (results_lineE rfl _ _ (w.heap.size + 1) (.int .i64 0) (.slice none 0 0) (.int .i64 0) (.slice none 0 0) rfl (by simp [qT, putIn, hA8])) rfl ?_
  refine ⟨fun l' h => (by cases h), fun _ => rfl, ?_⟩
  have := HX4.out
  ((with_reducible repeat' first | exact zE _ _ | assumption | refine Below.alloc ?_ ?_ _ | refine Below.drew ?_ | refine drewN_below ?_ | refine Below.setCell ?_ ?_ _) <;> go_size)
 | some l' =>
  obtain ⟨rfl, rfl, rfl, e5, e6⟩ := hl4 l' rfl
  have HE := zA (zB e5 e6)
  have hml := e5.len
  clear hl4 e5 e6
  go_wp2_with fail
  refine zM (results_lineE rfl _ _ (w.heap.size + 1) (.int .i64 l'.quote) (.slice na l'.lists.length c) (.int .i64 l'.kind) (.slice a2 l.cells.length c2) rfl (by simp [qT, putIn, hA8])) rfl ?_
  refine ⟨fun l'' h => ?_, fun h => (by cases h), ?_⟩
  ·cases h
   refine ⟨_, _, rfl, ?_, ?_⟩
   ·have hh := HE.out.1
    exact (qH (qC _) hh (by ((with_reducible repeat' first | exact qN _ _ | refine qQ ?_ ?_ _ | refine qO ?_ _ | refine qP ?_) <;> (simp; omega))) (fun b h _ => (by have h' := h; (try simp at h'); omega)))
   ·rw [HE.out.2]
    have hh := HCC.out
    exact (qH (qC _) hh (by ((with_reducible repeat' first | exact qN _ _ | refine qQ ?_ ?_ _ | refine qO ?_ _ | refine qP ?_) <;> (simp; omega))) (fun b h _ => (by have h' := h; (try simp at h'); omega)))
  ·have := HX4.out
   ((with_reducible repeat' first | exact zE _ _ | assumption | refine Below.alloc ?_ ?_ _ | refine Below.drew ?_ | refine drewN_below ?_ | refine Below.setCell ?_ ?_ _) <;> go_size)
theorem blkT {w : World} {B : Nat} {cs : Array Value} {t : TypeId} (h : w.heap[B]? = some (.cells cs t)) : (∀ X k, (w.alloc X).cell? ⟨B, k, none⟩ = cs[k]?) ∧ (∀ X k, (w.alloc X).frozen? ⟨B, k, none⟩ = false) :=
 ⟨fun X _ => cell_of_heap (heap_old _ X h), fun X _ => frozen_of_heap (heap_old _ X h)⟩
theorem TurnP.own {n B : Nat} {l : Lin} {cv : Value} {w w' : World} {r : Option Lin} {e : Ending} {a : Option Addr} {m c : Nat} (q k : Int) (he : e = .returned (.bool r.isSome)) (hB : w'.heap[B]? = some (.cells #[.int .i64 q, .slice a m c, .int .i64 k, cv] 60))
  (hl : ∀ l', r = some l' → l'.quote = q ∧ l'.kind = k ∧ l'.lists.length = m ∧ IntsR true w' (fun b => n ≤ b) (.slice a m c) l'.lists ∧ l'.cells = l.cells) (ho : ∀ b, b ≠ B → w'.heap[b]? = w.heap[b]?) (hs : w'.heap.size = w.heap.size) (hb : ∀ m, m ≤ B → Below m w w') : TurnP n B l cv w r e w' :=
 ⟨he, ⟨q, k, a, m, c, hB, hl⟩, fun b hb _ _ => ho b hb, Nat.le_of_eq hs.symm, fun m _ hm => hb m hm⟩
set_option maxRecDepth 100000 in
theorem format1_any (n B Bk : Nat) (l : Lin) (kind : Int) (la : Option Addr) (lc : Nat) (cv : Value) (W : World) (hBn : B < n) (hne : Bk ≠ B) (hk : W.heap[Bk]? = some (.cells #[.int .i64 kind] 3)) (h : IntsR true W (fun b => n ≤ b) (.slice la l.lists.length lc) l.lists) (hB : W.heap[B]? = some (.cells #[.int .i64 l.quote, .slice la l.lists.length lc, .int .i64 l.kind, cv] 60)) :
  Calls zV 292 #[.pointer (some ⟨B, 0, none⟩), .pointer (some ⟨Bk, 0, none⟩)] W (TurnP n B l cv W (formatL kind l)) := by
 obtain ⟨p0, f0⟩ := blk hB
 obtain ⟨p1, f1⟩ := blk hk
 have v1 : ¬ B = Bk := fun e => hne e.symm
 have v2 : ¬ Bk = B := hne
 have hlen := h.len
 have HB := zA hB
 have HI := zA h
 have HR := zA (show formatL kind l = if l.lists ≠ [] ∨ l.kind = kind then none else some { l with kind := kind } from rfl)
 clear h hB hk
 by_cases e1 : l.lists = []
 ·have hl0 : (((l.lists.length : Nat) : Int) == 0) = true := by rw [e1]; rfl
  by_cases e2 : l.kind = kind
  ·have hk0 : (l.kind != kind) = false := by simp [e2]
   have HR : Hid (formatL kind l = none) := zA (HR.out.trans (if_pos (.inr e2)))
   clear e1 e2
   go_enter Tryz.func292, Tryz.ntmps292
   go_wp2_with fail
   go_ret
   rw [HR.out]
   exact TurnP.own (a := la) (m := l.lists.length) (c := lc) l.quote kind rfl (by simp [qT, putIn, HB.out]) (fun _ e => by cases e) (fun b hb => by simp [qT, Ne.symm hb]) (by simp) (fun m hm => (zE _ _).setCell hm _)
  ·have hk0 : (l.kind != kind) = true := by simp [e2]
   have HR : Hid (formatL kind l = some { l with kind := kind }) := zA (HR.out.trans (if_neg (fun h => h.elim (fun h => h e1) (fun h => e2 h))))
   clear e1 e2
   go_enter Tryz.func292, Tryz.ntmps292
   go_wp2_with fail
   go_ret
   rw [HR.out]
   refine TurnP.own (a := la) (m := l.lists.length) (c := lc) l.quote kind rfl (by simp [qT, putIn, HB.out]) ?_ (fun b hb => by simp [qT, Ne.symm hb]) (by simp) (fun m hm => (zE _ _).setCell hm _)
   intro l' hl'
   cases hl'
   exact ⟨rfl, rfl, rfl, qH (qC _) HI.out (by (repeat' (first | (with_reducible exact qN _ _) | (with_reducible refine qQ ?_ ?_ _) | (with_reducible refine qO ?_ _) | (with_reducible refine qP ?_) | (first | (simp; omega)) | (simp; omega)))) (fun b h _ => h), rfl⟩
 ·have hl0 : (((l.lists.length : Nat) : Int) == 0) = false := by
   have : l.lists.length ≠ 0 := fun e2 => e1 (List.length_eq_zero_iff.1 e2)
   exact beq_false_of_ne (by omega)
  have HR : Hid (formatL kind l = none) := zA (HR.out.trans (if_pos (.inl e1)))
  clear e1
  go_enter Tryz.func292, Tryz.ntmps292
  go_wp2_with fail
  go_ret
  rw [HR.out]
  exact TurnP.own (a := la) (m := l.lists.length) (c := lc) l.quote kind rfl (by simp [qT, putIn, HB.out]) (fun _ e => by cases e) (fun b hb => by simp [qT, Ne.symm hb]) (by simp) (fun m hm => (zE _ _).setCell hm _)
theorem append_others {w w' : World} {S : Nat → Prop} {v : Value} {xs : List Int} (h : IntsR true w S v xs) (hne : xs ≠ []) (hg : w.grownBy w' v.ownBlock) : ∀ b, b < w.heap.size → (¬ S b ∨ ∀ cs, w.heap[b]? ≠ some (.cells cs 3)) → w'.heap[b]? = w.heap[b]? := fun b hb hno => by
 obtain ⟨a, c, rfl, _, _, hx⟩ := h
 rcases hx with ⟨rfl, _⟩ | ⟨b0, o0, rfl, hS, _, hf, _⟩
 ·exact absurd rfl hne
 ·obtain ⟨cs, h1, _⟩ := hf rfl
  refine hg.block b hb (fun e => ?_)
  have e : some b = some b0 := e
  cases e
  exact hno.elim (fun h => h hS) (fun h => h cs h1)
theorem ints_one (w : World) (k : Int) {S : Nat → Prop} (hS : S w.heap.size) : IntsR true (w.alloc (.cells #[.int .i64 k] 3)) S (.slice (some ⟨w.heap.size, 0, none⟩) 1 1) [k] := by
 refine ⟨_, 1, rfl, by simp, by decide, .inr ⟨w.heap.size, 0, rfl, hS, by simp, fun _ => ⟨_, heap_new _ _ rfl, by simp⟩, fun i x hx => ?_⟩⟩
 match i, hx with
 | 0, hx =>
  cases hx
  exact ⟨_, rfl, rfl, fun j u hu => by
   rw [cell_of_heap (heap_new _ _ rfl), Nat.zero_mul, Nat.zero_add]
   simpa [encInt] using hu⟩
theorem oneV_int (k : Int) : ∀ u ∈ [Value.int .i64 k], u.oneCell' = true := fun u hu => by simp at hu; subst hu; rfl
set_option maxRecDepth 100000 in
theorem indent1_any (n B : Nat) (l : Lin) (la : Option Addr) (lc : Nat) (cv : Value) (W : World) (hm : mayL l = true) (hBn : B < n) (hnW : n ≤ W.heap.size) (h : IntsR true W (fun b => n ≤ b) (.slice la l.lists.length lc) l.lists) (hB : W.heap[B]? = some (.cells #[.int .i64 l.quote, .slice la l.lists.length lc, .int .i64 l.kind, cv] 60)) :
  Calls zV 255 #[.pointer (some ⟨B, 0, none⟩)] W (TurnP n B l cv W (indentL l)) := by
 obtain ⟨hq0, hq6, hl6, _⟩ := mayL_facts hm
 have HC := zA (lineLast_any B l.quote l.kind l.lists la lc cv W _ (SliceR.read (fun _ _ h => h) h) hB)
 have hlen := h.len
 by_cases hn : l.lists = []
 ·have HR : Hid (indentL l = if l.quote = 6 then none else some { l with quote := l.quote + 1 }) := zA (by unfold indentL; rw [if_neg (fun e => e hn)])
  have hla : lastF l.lists = -1 := by rw [hn]; rfl
  rw [hla] at HC
  have HB := zA hB
  have HI := zA h
  have w1 : IntKind.i64.wrap (l.quote + 1) = l.quote + 1 := IntWalk.i64_in _ (by omega)
  clear h hB hn hlen hla
  go_enter Tryz.func255, Tryz.ntmps255
  go_wp2_with (go_at_call 256; refine HC.out.mono ?_; rintro e w2 ⟨rfl, hb2, hh2⟩; have HW2 := zA (zB hb2 hh2); have HB2 : Hid (w2.heap[B]? = _) := zA (hh2 ▸ HB.out); clear hb2 hh2; obtain ⟨p0, f0⟩ := blk HB2.out)
  go_ret
  rw [HR.out]
  have hI2 : IntsR true w2 (fun b => n ≤ b) (.slice la l.lists.length lc) l.lists := qJ (qC _) HI.out HW2.out.1
  refine ⟨?_, ⟨l.quote + 1, l.kind, la, l.lists.length, lc, by simp [qT, putIn, HB2.out], ?_⟩, fun b hb _ _ => by simp [qT, Ne.symm hb, HW2.out.2], by simp [HW2.out.2], fun m _ hm => (HW2.out.1.mono (by have := hnW; omega)).setCell hm _⟩
  ·by_cases e : l.quote = 6
   ·rw [if_pos e]; simp [e]
   ·rw [if_neg e]; simp; omega
  ·intro l' hl'
   split at hl'
   ·cases hl'
   ·cases hl'
    exact ⟨rfl, rfl, rfl, qH (qC _) hI2 (by (repeat' (first | (with_reducible exact qN _ _) | (with_reducible refine qQ ?_ ?_ _) | (with_reducible refine qO ?_ _) | (with_reducible refine qP ?_) | (first | (simp; omega)) | (simp; omega)))) (fun b h _ => h), rfl⟩
 ·have HR : Hid (indentL l = if l.lists.length = 6 then none else some { l with lists := l.lists ++ [lastF l.lists] }) := zA (by unfold indentL; rw [if_pos hn])
  have hlf := lastF_yes hm hn
  obtain ⟨k, hk⟩ : ∃ k, lastF l.lists = k := ⟨_, rfl⟩
  rw [hk] at HC HR hlf
  have HB := zA hB
  have HI := zA h
  have HN := zA hn
  have HL : Hid (l.lists.length + [k].length ≤ 100000000) := zA (by simp; omega)
  have hk0 : ¬ k < 0 := by omega
  clear h hB hn hlen hk
  go_enter Tryz.func255, Tryz.ntmps255
  go_wp2_with (first
   | (go_at_call 256; refine HC.out.mono ?_; rintro e w2 ⟨rfl, hb2, hh2⟩; have HW2 := zA (zB hb2 hh2); have HB2 : Hid (w2.heap[B]? = _) := zA (hh2 ▸ HB.out); have hz2 : W.heap.size ≤ w2.heap.size := (by rw [hh2]; exact zC _); clear hb2 hh2; obtain ⟨p0, f0⟩ := blk HB2.out)
   | (at_builtin; refine wpList_append_R _ rfl _ _ 52 52 rfl rowInt eltInt n _ _ (xs := l.lists) (ys := [k]) (news := [.int .i64 k]) rfl rfl (qJ (qC _) (qJ (qC _) HI.out HW2.out.1) ((zE _ _).alloc (zC _) _)) (by simp; omega) (src_at rowInt _ _ rfl (oneV_int k) 1 rfl) (NewsR.one rfl rfl) HL.out ?_; intro v' w3 hR hB' hg _; obtain ⟨a3, c3, hv3⟩ := hR.slice; subst hv3; have HR3 := zA hR; have HB3 := zA hB'; have HG3 := zA (append_others (qJ (qC _) (qJ (qC _) HI.out HW2.out.1) ((zE _ _).alloc (zC _) _)) HN.out hg); have j3 := (HG3.out B (by simp; omega) (.inl (by omega))).trans (heap_old _ _ HB2.out); have HJ3 := zA j3; obtain ⟨p3, f3⟩ := blk j3; clear hR hB' hg j3))
  go_ret
  rw [HR.out]
  have hr3 := HR3.out
  rw [zS, List.length_singleton] at hr3
  refine ⟨?_, ⟨l.quote, l.kind, a3, l.lists.length + 1, c3, by simp [qT, putIn, HJ3.out], ?_⟩, fun b hb hz hno => ?_, ?_, fun m hm1 hm2 => ?_⟩
  ·by_cases e : l.lists.length = 6
   ·rw [if_pos e]; simp [e]
   ·rw [if_neg e]; simp; omega
  ·intro l' hl'
   split at hl'
   ·cases hl'
   ·cases hl'
    exact ⟨rfl, rfl, by simp, qH (qC _) hr3 (by (repeat' (first | (with_reducible exact qN _ _) | (with_reducible refine qQ ?_ ?_ _) | (with_reducible refine qO ?_ _) | (with_reducible refine qP ?_) | (first | (simp; omega)) | (simp; omega)))) (fun b h _ => h), rfl⟩
  ·rw [qT, if_neg (Ne.symm hb)]
   have e1 : (w2.alloc (.cells #[.int .i64 k] 3)).heap[b]? = W.heap[b]? := by
    rw [Array.getElem?_eq_getElem hz]
    exact heap_old _ _ (by rw [HW2.out.2]; exact Array.getElem?_eq_getElem hz)
   exact (HG3.out b (by simp; omega) (.inr (fun cs => by rw [e1]; exact hno cs))).trans e1
  ·have := HB3.out.size
   simp at this ⊢
   omega
  ·exact (((HW2.out.1.mono (by omega)).alloc (by omega) _).trans (HB3.out.mono hm1)).setCell hm2 _
set_option maxRecDepth 100000 in
theorem list1_any (n B Bk : Nat) (l : Lin) (kind : Int) (la : Option Addr) (lc : Nat) (cv : Value) (W : World) (hm : mayL l = true) (hBn : B < n) (hne : Bk ≠ B) (hBk : Bk < n) (hnW : n ≤ W.heap.size) (hk : W.heap[Bk]? = some (.cells #[.int .i64 kind] 3)) (h : IntsR true W (fun b => n ≤ b) (.slice la l.lists.length lc) l.lists) (hB : W.heap[B]? = some (.cells #[.int .i64 l.quote, .slice la l.lists.length lc, .int .i64 l.kind, cv] 60)) :
  Calls zV 293 #[.pointer (some ⟨B, 0, none⟩), .pointer (some ⟨Bk, 0, none⟩)] W (TurnP n B l cv W (listL kind l)) := by
 obtain ⟨hq0, hq6, hl6, _⟩ := mayL_facts hm
 have HC := zA (lineLast_any B l.quote l.kind l.lists la lc cv W _ (SliceR.read (fun _ _ h => h) h) hB)
 have v1 : ¬ B = Bk := fun e => hne e.symm
 have v2 : ¬ Bk = B := hne
 by_cases hn : l.lists = []
 ·have HR : Hid (listL kind l = some { l with lists := [kind], kind := 0 }) := zA (by unfold listL; rw [if_pos hn])
  have hla : lastF l.lists = -1 := by rw [hn]; rfl
  rw [hla] at HC
  have HB := zA hB
  have HK := zA hk
  clear h hB hk hn hla
  go_enter Tryz.func293, Tryz.ntmps293
  go_wp2_with (go_at_call 256; refine HC.out.mono ?_; rintro e w2 ⟨rfl, hb2, hh2⟩; have HW2 := zA (zB hb2 hh2); have HB2 : Hid (w2.heap[B]? = _) := zA (hh2 ▸ HB.out); have hz2 : W.heap.size ≤ w2.heap.size := (by rw [hh2]; exact zC _); obtain ⟨p1, f1⟩ := blk (show w2.heap[Bk]? = _ from hh2 ▸ HK.out); have v3 : ¬ w2.heap.size = B := (by omega); have v4 : ¬ B = w2.heap.size := (by omega); clear hb2 hh2; obtain ⟨p0, f0⟩ := blk HB2.out; obtain ⟨t0, u0⟩ := blkT HB2.out)
  go_ret
  rw [HR.out]
  have hs2 : w2.heap.size = W.heap.size := by rw [HW2.out.2]
  refine ⟨rfl, ⟨l.quote, 0, some ⟨w2.heap.size, 0, none⟩, 1, 1, by simp [qT, putIn, heap_old _ (.cells #[.int .i64 kind] 3) HB2.out], ?_⟩, fun b hb hz hno => ?_, by simp; omega, fun m hm1 hm2 => ?_⟩
  ·intro l' hl'
   cases hl'
   exact ⟨rfl, rfl, rfl, qH (qC _) (ints_one w2 kind (S := fun b => n ≤ b) (by show n ≤ w2.heap.size; omega)) (by (repeat' (first | (with_reducible exact qN _ _) | (with_reducible refine qQ ?_ ?_ _) | (with_reducible refine qO ?_ _) | (with_reducible refine qP ?_) | (first | (simp; omega)) | (simp; omega)))) (fun b h _ => h), rfl⟩
  ·rw [qT, if_neg (Ne.symm hb), qT, if_neg (Ne.symm hb), Array.getElem?_eq_getElem hz]
   exact heap_old _ _ (by rw [HW2.out.2]; exact Array.getElem?_eq_getElem hz)
  ·exact (((HW2.out.1.mono (by omega)).alloc (by omega) _).setCell hm2 _).setCell hm2 _
 ·obtain ⟨i, hil⟩ : ∃ i, l.lists.length = i + 1 := ⟨l.lists.length - 1, by have := List.length_pos_iff.2 hn; omega⟩
  obtain ⟨x, hx0, _⟩ := getOf l.lists i (by omega)
  have hlx : lastF l.lists = x := by
   unfold lastF
   rw [List.getLastD_eq_getLast?, List.getLast?_eq_getElem?, hil, Nat.add_sub_cancel, hx0]
   rfl
  have hlf := lastF_yes hm hn
  have hset : l.lists.dropLast ++ [kind] = l.lists.set i kind := by
   apply List.ext_getElem?
   intro j
   by_cases hj : j = i
   ·subst hj
    rw [List.getElem?_set_self (by omega), List.getElem?_append_right (by simp; omega)]
    simp [hil]
   ·rw [List.getElem?_set_ne (Ne.symm hj)]
    by_cases hj2 : j < i
    ·rw [List.getElem?_append_left (by simp; omega), List.getElem?_dropLast, if_pos (by omega)]
    ·rw [List.getElem?_eq_none (by simp; omega), List.getElem?_eq_none (by omega)]
  have HR : Hid (listL kind l = if x = kind then none else some { l with lists := l.lists.set i kind }) := zA (by unfold listL; rw [if_neg hn, hlx, hset])
  rw [hlx] at HC hlf
  obtain ⟨b0, o0, cs0, hla, hS0, hc0, hz0⟩ := SliceR.cellAt h (i := i) (by omega)
  subst hla
  have hb0 : n ≤ b0 := hS0
  obtain ⟨a9, c9, he9, _, _, hx9⟩ := ints_shape (SliceR.read (fun _ _ h => h) h)
  cases he9
  obtain ⟨b9, o9, he9, hz9, hc9⟩ := hx9 i x hx0
  cases he9
  have HC9 := zA (zB hz9 hc9)
  clear hx9 hz9 hc9
  have HI := zA h
  have HB := zA hB
  have HK := zA hk
  have HX := zA hx0
  have HIL := zA hil
  have HC0 := zA hc0
  have hlen := h.len
  unfold maxLen at hlen
  have q0 : ¬ x < 0 := by omega
  have n0 : (0 : Int) ≤ (i : Int) := zR _
  have n1 : (i : Int) < ((i + 1 : Nat) : Int) := by omega
  have e1 : IntKind.i64.wrap (((i + 1 : Nat) : Int) - 1) = (i : Int) := by rw [show (((i + 1 : Nat) : Int) - 1) = (i : Int) by omega]; exact IntWalk.i64_in _ (by omega)
  have e2 : wrap64 (i : Int) = (i : Int) := IntWalk.wrap64_in _ (by omega)
  have v3 : ¬ b0 = B := by omega
  have v4 : ¬ b0 = Bk := by omega
  have v5 : ¬ B = b0 := by omega
  have v6 : ¬ Bk = b0 := by omega
  rw [hil] at HB
  clear h hB hk hx0 hlx hset hn hc0 hz0 hS0 hil hlen
  go_enter Tryz.func293, Tryz.ntmps293
  go_wp2_with (go_at_call 256; refine HC.out.mono ?_; rintro e w2 ⟨rfl, hb2, hh2⟩; have HW2 := zA (zB hb2 hh2); have HB2 : Hid (w2.heap[B]? = _) := zA (hh2 ▸ HB.out); obtain ⟨p1, f1⟩ := blk (show w2.heap[Bk]? = _ from hh2 ▸ HK.out); have f2 := (blk (show w2.heap[b0]? = _ from hh2 ▸ HC0.out)).2; have c9 := (hb2.cell (p := ⟨b0, o0 + i, none⟩) HC9.out.1).trans HC9.out.2; clear hb2 hh2; obtain ⟨p0, f0⟩ := blk HB2.out)
  go_region
  go_wp2_with fail
  go_ret
  rw [HR.out]
  have hI2 : IntsR true w2 (fun b => n ≤ b) (.slice (some ⟨b0, o0, none⟩) l.lists.length lc) l.lists := qJ (qC _) HI.out HW2.out.1
  have hw := SliceR.set1 eltInt.tag hI2 HX.out (j := 0) (x' := kind) (by decide) (.int .i64 kind) (by rintro vs _ rfl; rfl)
  rw [Nat.mul_one, Nat.add_zero] at hw
  have hlen2 : (l.lists.set i kind).length = l.lists.length := List.length_set
  refine ⟨?_, ⟨l.quote, l.kind, some ⟨b0, o0, none⟩, l.lists.length, lc, ?_, ?_⟩, fun b hb hz hno => ?_, by simp [HW2.out.2], fun m hm1 hm2 => ?_⟩
  ·by_cases e : x = kind
   ·rw [if_pos e]; simp [e]
   ·rw [if_neg e]; simp [e]
  ·show (w2.setCell ⟨b0, o0 + i, none⟩ (.int .i64 kind)).heap[B]? = _
   rw [qT, if_neg v3, HIL.out]
   exact HB2.out
  ·intro l' hl'
   split at hl'
   ·cases hl'
   ·cases hl'
    exact ⟨rfl, rfl, hlen2, qJ (qC _) hw (zE _ _).drew, rfl⟩
  ·show (w2.setCell ⟨b0, o0 + i, none⟩ (.int .i64 kind)).heap[b]? = _
   rw [qT, if_neg (fun e : b0 = b => hno cs0 (e ▸ HC0.out)), HW2.out.2]
  ·exact ((HW2.out.1.mono (by omega)).setCell (by show m ≤ b0; omega) _).drew
end Go.Proofs.YtcliojeoindceaaGreatDoor
