/- Parts of the proof. -/
import Derived.Test.YtjgeadoncanheaaGreatDoorPartBaseN
import Derived.Test.YtjgeadoncanheaaGreatDoorQryArgsN
import Derived.Maps.OwnSet
import Derived.Maps.OwnOps
import Derived.Test.YtjgeadoncanheaaGreatDoorAttrWalkN
import Derived.MapKept
import Derived.Test.YtjgeadoncanheaaGreatDoorStyTellsN
import Derived.Test.YtjgeadoncanheaaGreatDoorLaidN
import Derived.Deep.RegionHeld3
import Derived.Deep.DrawnRows
set_option linter.unusedVariables false
set_option linter.unusedSimpArgs false
set_option maxHeartbeats 8000000
namespace Go.Proofs.YtjgeadoncanheaaGreatDoor
open Go.RowKit
open Go.Proofs.Qw
attribute [local go_sem] Oper.semAt_some
open _root_.Go.Proofs.YtjgeadoncanheaaGreatDoor renaming jH → zY, jD → qF
def tagV (n : Nat) : Array Value := #[.slice none 0 0, .int .i64 1, .slice (some ⟨n + 1, 0, none⟩) 1 1, .int .i64 2, .slice (some ⟨n + 2, 0, none⟩) 1 1, .int .i64 3, .slice (some ⟨n + 3, 0, none⟩) 1 1, .int .i64 3, .slice (some ⟨n + 4, 0, none⟩) 1 1, .int .i64 3, .slice (some ⟨n + 5, 0, none⟩) 1 1, .int .i64 3, .slice (some ⟨n + 6, 0, none⟩) 1 1, .int .i64 2, .slice (some ⟨n + 7, 0, none⟩) 1 1, .int .i64 2, .slice (some ⟨n + 8, 0, none⟩) 1 1, .int .i64 2, .slice (some ⟨n + 9, 0, none⟩) 1 1, .int .i64 3, .slice (some ⟨n + 10, 0, none⟩) 1 1, .int .i64 4, .slice (some ⟨n + 11, 0, none⟩) 2 2, .int .i64 4, .slice (some ⟨n + 12, 0, none⟩) 2 2, .int .i64 4, .slice (some ⟨n + 13, 0, none⟩) 2 2, .int .i64 4, .slice (some ⟨n + 14, 0, none⟩) 3 3, .int .i64 4, .slice (some ⟨n + 15, 0, none⟩) 1 1, .int .i64 4, .slice (some ⟨n + 16, 0, none⟩) 1 1, .int .i64 5]
def uC : List Obj := [
 .cells #[.string ⟨#[100, 105, 118]⟩] 9,
 .cells #[.string ⟨#[112]⟩] 9,
 .cells #[.string ⟨#[104, 49]⟩] 9,
 .cells #[.string ⟨#[104, 50]⟩] 9,
 .cells #[.string ⟨#[104, 51]⟩] 9,
 .cells #[.string ⟨#[98, 108, 111, 99, 107, 113, 117, 111, 116, 101]⟩] 9,
 .cells #[.string ⟨#[117, 108]⟩] 9,
 .cells #[.string ⟨#[111, 108]⟩] 9,
 .cells #[.string ⟨#[108, 105]⟩] 9,
 .cells #[.string ⟨#[97]⟩] 9,
 .cells #[.string ⟨#[98]⟩, .string ⟨#[115, 116, 114, 111, 110, 103]⟩] 9,
 .cells #[.string ⟨#[105]⟩, .string ⟨#[101, 109]⟩] 9,
 .cells #[.string ⟨#[117]⟩, .string ⟨#[105, 110, 115]⟩] 9,
 .cells #[.string ⟨#[115]⟩, .string ⟨#[115, 116, 114, 105, 107, 101]⟩, .string ⟨#[100, 101, 108]⟩] 9,
 .cells #[.string ⟨#[115, 112, 97, 110]⟩] 9,
 .cells #[.string ⟨#[98, 114]⟩] 9]
set_option maxRecDepth 100000 in
theorem zJa (w : World) : ∃ W1, ((((((((((((((((w.alloc (.cells #[.slice none 0 0, .int .i64 0, .slice none 0 0, .int .i64 0, .slice none 0 0, .int .i64 0, .slice none 0 0, .int .i64 0, .slice none 0 0, .int .i64 0, .slice none 0 0, .int .i64 0, .slice none 0 0, .int .i64 0, .slice none 0 0, .int .i64 0, .slice none 0 0, .int .i64 0, .slice none 0 0, .int .i64 0, .slice none 0 0, .int .i64 0, .slice none 0 0, .int .i64 0, .slice none 0 0, .int .i64 0, .slice none 0 0, .int .i64 0, .slice none 0 0, .int .i64 0, .slice none 0 0, .int .i64 0, .slice none 0 0, .int .i64 0] 108)).alloc (.cells #[.string ⟨#[100, 105, 118]⟩] 9)).alloc (.cells #[.string ⟨#[112]⟩] 9)).alloc (.cells #[.string ⟨#[104, 49]⟩] 9)).alloc (.cells #[.string ⟨#[104, 50]⟩] 9)).alloc (.cells #[.string ⟨#[104, 51]⟩] 9)).alloc (.cells #[.string ⟨#[98, 108, 111, 99, 107, 113, 117, 111, 116, 101]⟩] 9)).alloc (.cells #[.string ⟨#[117, 108]⟩] 9)).alloc (.cells #[.string ⟨#[111, 108]⟩] 9)).alloc (.cells #[.string ⟨#[108, 105]⟩] 9)).alloc (.cells #[.string ⟨#[97]⟩] 9)).alloc (.cells #[.string ⟨#[98]⟩, .string ⟨#[115, 116, 114, 111, 110, 103]⟩] 9)).alloc (.cells #[.string ⟨#[105]⟩, .string ⟨#[101, 109]⟩] 9)).alloc (.cells #[.string ⟨#[117]⟩, .string ⟨#[105, 110, 115]⟩] 9)).alloc (.cells #[.string ⟨#[115]⟩, .string ⟨#[115, 116, 114, 105, 107, 101]⟩, .string ⟨#[100, 101, 108]⟩] 9)).alloc (.cells #[.string ⟨#[115, 112, 97, 110]⟩] 9)).alloc (.cells #[.string ⟨#[98, 114]⟩] 9) = W1 ∧ Below w.heap.size w W1 ∧ W1.heap[w.heap.size]? = some (.cells #[.slice none 0 0, .int .i64 0, .slice none 0 0, .int .i64 0, .slice none 0 0, .int .i64 0, .slice none 0 0, .int .i64 0, .slice none 0 0, .int .i64 0, .slice none 0 0, .int .i64 0, .slice none 0 0, .int .i64 0, .slice none 0 0, .int .i64 0, .slice none 0 0, .int .i64 0, .slice none 0 0, .int .i64 0, .slice none 0 0, .int .i64 0, .slice none 0 0, .int .i64 0, .slice none 0 0, .int .i64 0, .slice none 0 0, .int .i64 0, .slice none 0 0, .int .i64 0, .slice none 0 0, .int .i64 0, .slice none 0 0, .int .i64 0] 108) ∧ W1.heap[w.heap.size + 1]? = some (.cells #[.string ⟨#[100, 105, 118]⟩] 9) ∧ W1.heap[w.heap.size + 2]? = some (.cells #[.string ⟨#[112]⟩] 9) ∧ W1.heap[w.heap.size + 3]? = some (.cells #[.string ⟨#[104, 49]⟩] 9) ∧ W1.heap[w.heap.size + 4]? = some (.cells #[.string ⟨#[104, 50]⟩] 9) ∧ W1.heap[w.heap.size + 5]? = some (.cells #[.string ⟨#[104, 51]⟩] 9) ∧ W1.heap[w.heap.size + 6]? = some (.cells #[.string ⟨#[98, 108, 111, 99, 107, 113, 117, 111, 116, 101]⟩] 9) ∧ W1.heap[w.heap.size + 7]? = some (.cells #[.string ⟨#[117, 108]⟩] 9) ∧ W1.heap[w.heap.size + 8]? = some (.cells #[.string ⟨#[111, 108]⟩] 9) ∧ W1.heap[w.heap.size + 9]? = some (.cells #[.string ⟨#[108, 105]⟩] 9) ∧ W1.heap[w.heap.size + 10]? = some (.cells #[.string ⟨#[97]⟩] 9) ∧ W1.heap[w.heap.size + 11]? = some (.cells #[.string ⟨#[98]⟩, .string ⟨#[115, 116, 114, 111, 110, 103]⟩] 9) ∧ W1.heap[w.heap.size + 12]? = some (.cells #[.string ⟨#[105]⟩, .string ⟨#[101, 109]⟩] 9) ∧ W1.heap[w.heap.size + 13]? = some (.cells #[.string ⟨#[117]⟩, .string ⟨#[105, 110, 115]⟩] 9) ∧ W1.heap[w.heap.size + 14]? = some (.cells #[.string ⟨#[115]⟩, .string ⟨#[115, 116, 114, 105, 107, 101]⟩, .string ⟨#[100, 101, 108]⟩] 9) ∧ W1.heap[w.heap.size + 15]? = some (.cells #[.string ⟨#[115, 112, 97, 110]⟩] 9) ∧ W1.heap[w.heap.size + 16]? = some (.cells #[.string ⟨#[98, 114]⟩] 9) :=
 ⟨_, rfl, (((((((((((((((((Below.refl _ _).alloc (Nat.le_refl _) _).alloc qE _).alloc jB _).alloc jB _).alloc jB _).alloc jB _).alloc jB _).alloc jB _).alloc jB _).alloc jB _).alloc jB _).alloc jB _).alloc jB _).alloc jB _).alloc jB _).alloc jB _).alloc jB _, zY _ _ (zY _ _ (zY _ _ (zY _ _ (zY _ _ (zY _ _ (zY _ _ (zY _ _ (zY _ _ (zY _ _ (zY _ _ (zY _ _ (zY _ _ (zY _ _ (zY _ _ (zY _ _ (qF _ _ rfl)))))))))))))))), zY _ _ (zY _ _ (zY _ _ (zY _ _ (zY _ _ (zY _ _ (zY _ _ (zY _ _ (zY _ _ (zY _ _ (zY _ _ (zY _ _ (zY _ _ (zY _ _ (zY _ _ (qF _ _ qE))))))))))))))), zY _ _ (zY _ _ (zY _ _ (zY _ _ (zY _ _ (zY _ _ (zY _ _ (zY _ _ (zY _ _ (zY _ _ (zY _ _ (zY _ _ (zY _ _ (zY _ _ (qF _ _ qE)))))))))))))), zY _ _ (zY _ _ (zY _ _ (zY _ _ (zY _ _ (zY _ _ (zY _ _ (zY _ _ (zY _ _ (zY _ _ (zY _ _ (zY _ _ (zY _ _ (qF _ _ qE))))))))))))), zY _ _ (zY _ _ (zY _ _ (zY _ _ (zY _ _ (zY _ _ (zY _ _ (zY _ _ (zY _ _ (zY _ _ (zY _ _ (zY _ _ (qF _ _ qE)))))))))))), zY _ _ (zY _ _ (zY _ _ (zY _ _ (zY _ _ (zY _ _ (zY _ _ (zY _ _ (zY _ _ (zY _ _ (zY _ _ (qF _ _ qE))))))))))), zY _ _ (zY _ _ (zY _ _ (zY _ _ (zY _ _ (zY _ _ (zY _ _ (zY _ _ (zY _ _ (zY _ _ (qF _ _ qE)))))))))), zY _ _ (zY _ _ (zY _ _ (zY _ _ (zY _ _ (zY _ _ (zY _ _ (zY _ _ (zY _ _ (qF _ _ qE))))))))), zY _ _ (zY _ _ (zY _ _ (zY _ _ (zY _ _ (zY _ _ (zY _ _ (zY _ _ (qF _ _ qE)))))))), zY _ _ (zY _ _ (zY _ _ (zY _ _ (zY _ _ (zY _ _ (zY _ _ (qF _ _ qE))))))), zY _ _ (zY _ _ (zY _ _ (zY _ _ (zY _ _ (zY _ _ (qF _ _ qE)))))), zY _ _ (zY _ _ (zY _ _ (zY _ _ (zY _ _ (qF _ _ qE))))), zY _ _ (zY _ _ (zY _ _ (zY _ _ (qF _ _ qE)))), zY _ _ (zY _ _ (zY _ _ (qF _ _ qE))), zY _ _ (zY _ _ (qF _ _ qE)), zY _ _ (qF _ _ qE), qF _ _ qE⟩
theorem zGj {fn : Func} {p : Tmp} (h : fn.results = #[.cell p 108]) (tmps : Array Value) (w : World) (B : Nat) (vs : Array Value) (hp : tmps.getD p undef = .pointer (some ⟨B, 0, none⟩))
  (hB : w.heap[B]? = some (.cells vs 108)) (hs : (Tryz.prog.info? 108).map (·.size) = some vs.size) : (results fn tmps).run Tryz.prog w = .ok (.agg vs) w := by
 have h1 := run_loadVar_row (P := Tryz.prog) w B 108 108 _ _ _ hB Tryz.underlying108 rfl hs;have hp' : tmps[p]?.getD undef = .pointer (some ⟨B, 0, none⟩) := by simpa using hp
 simp [results, h, hp', asAddr, h1]
theorem zJT {w W : World} (h0 : W.heap[w.heap.size + 1]? = some (.cells #[.string ⟨#[100, 105, 118]⟩] 9)) (h1 : W.heap[w.heap.size + 2]? = some (.cells #[.string ⟨#[112]⟩] 9)) (h2 : W.heap[w.heap.size + 3]? = some (.cells #[.string ⟨#[104, 49]⟩] 9)) (h3 : W.heap[w.heap.size + 4]? = some (.cells #[.string ⟨#[104, 50]⟩] 9)) (h4 : W.heap[w.heap.size + 5]? = some (.cells #[.string ⟨#[104, 51]⟩] 9)) (h5 : W.heap[w.heap.size + 6]? = some (.cells #[.string ⟨#[98, 108, 111, 99, 107, 113, 117, 111, 116, 101]⟩] 9)) (h6 : W.heap[w.heap.size + 7]? = some (.cells #[.string ⟨#[117, 108]⟩] 9)) (h7 : W.heap[w.heap.size + 8]? = some (.cells #[.string ⟨#[111, 108]⟩] 9)) (h8 : W.heap[w.heap.size + 9]? = some (.cells #[.string ⟨#[108, 105]⟩] 9)) (h9 : W.heap[w.heap.size + 10]? = some (.cells #[.string ⟨#[97]⟩] 9)) (h10 : W.heap[w.heap.size + 11]? = some (.cells #[.string ⟨#[98]⟩, .string ⟨#[115, 116, 114, 111, 110, 103]⟩] 9)) (h11 : W.heap[w.heap.size + 12]? = some (.cells #[.string ⟨#[105]⟩, .string ⟨#[101, 109]⟩] 9)) (h12 : W.heap[w.heap.size + 13]? = some (.cells #[.string ⟨#[117]⟩, .string ⟨#[105, 110, 115]⟩] 9)) (h13 : W.heap[w.heap.size + 14]? = some (.cells #[.string ⟨#[115]⟩, .string ⟨#[115, 116, 114, 105, 107, 101]⟩, .string ⟨#[100, 101, 108]⟩] 9)) (h14 : W.heap[w.heap.size + 15]? = some (.cells #[.string ⟨#[115, 112, 97, 110]⟩] 9)) (h15 : W.heap[w.heap.size + 16]? = some (.cells #[.string ⟨#[98, 114]⟩] 9)) : ∀ (k : Nat) (o : Obj), uC[k]? = some o → W.heap[w.heap.size + (k + 1)]? = some o := fun k o hk => by
 have hk16 : k < 16 := (List.getElem?_eq_some_iff.1 hk).1
 match k, hk16, hk with
 | 0, _, hk => cases hk; exact h0
 | 1, _, hk => cases hk; exact h1
 | 2, _, hk => cases hk; exact h2
 | 3, _, hk => cases hk; exact h3
 | 4, _, hk => cases hk; exact h4
 | 5, _, hk => cases hk; exact h5
 | 6, _, hk => cases hk; exact h6
 | 7, _, hk => cases hk; exact h7
 | 8, _, hk => cases hk; exact h8
 | 9, _, hk => cases hk; exact h9
 | 10, _, hk => cases hk; exact h10
 | 11, _, hk => cases hk; exact h11
 | 12, _, hk => cases hk; exact h12
 | 13, _, hk => cases hk; exact h13
 | 14, _, hk => cases hk; exact h14
 | 15, _, hk => cases hk; exact h15
set_option maxRecDepth 100000 in
theorem zDP (w : World) : Calls Tryz.prog 99 #[] w fun e w' => e = .returned (.agg (tagV w.heap.size)) ∧ Below w.heap.size w w' ∧ ∀ (k : Nat) (o : Obj), uC[k]? = some o → w'.heap[w.heap.size + (k + 1)]? = some o := by
 obtain ⟨W1, hW1, hB, ht, h0, h1, h2, h3, h4, h5, h6, h7, h8, h9, h10, h11, h12, h13, h14, h15⟩ := zJa w;have HO := Lib.hid (zJT h0 h1 h2 h3 h4 h5 h6 h7 h8 h9 h10 h11 h12 h13 h14 h15);have HT := Lib.hid ht;have HB := Lib.hid hB;have HW := Lib.hid hW1;clear hW1 ht hB h0 h1 h2 h3 h4 h5 h6 h7 h8 h9 h10 h11 h12 h13 h14 h15;go_enter Tryz.func99, Tryz.ntmps99
 go_wp2_with (first
  | (refine wpList_build rfl 108 _ rfl zT ?_; rw [HW.out]
     refine wpList_store_row rfl 108 _ _ rfl w.heap.size (tagV w.heap.size) zT zT 108 _ HT.out zT zT zT ?_
     generalize hact : Act.put _ _ _ = a9
     have ha9 : a9.tmps.getD 0 undef = .pointer (some ⟨w.heap.size, 0, none⟩) := by rw [← hact]; kernel_rfl
     have hd9 : a9.defers = [] := by rw [← hact]; kernel_rfl
     clear hact;refine wpList_nil ?_;have hW := setRow_heap W1 w.heap.size _ (tagV w.heap.size) 108 _ HT.out;simp only [Exit.then];refine ‹∀ (a : Act) (w : World), Code.wp _ _ _ a w → _› _ _ ?_;refine wp_ret ?_;refine bodyPost_ret (zGj rfl _ _ w.heap.size _ ha9 hW zT) hd9 ?_;exact ⟨rfl, zBE HB.out (Nat.le_refl _), fun k o hk => by rw [zCu _ _ _ qC]; exact HO.out k o hk⟩))
end Go.Proofs.YtjgeadoncanheaaGreatDoor
namespace Go.Proofs.Qw
open Go.RowKit Go.Proofs.YtjgeadoncanheaaGreatDoor
open _root_.List renaming getElem?_eq_some_iff → zK
def putT (D : DataW Unit) (x : List UInt8 × Int) : DataW Unit := D.put (.string x.1) (.lit (.int .i64 x.2))
def mapT (n : Nat) : DataW Unit := (jY.take n).foldl putT (.map [])
theorem zJo {n : Nat} {x : List UInt8 × Int} (h : jY[n]? = some x) : mapT (n + 1) = putT (mapT n) x := by
 unfold mapT;rw [xQ h, List.foldl_append]
 rfl
theorem zEF : ∀ (xs : List (List UInt8 × Int)) (D : DataW Unit), Maps.IsMap D → Maps.IsMap (xs.foldl putT D)
 | [], _, h => h
 | _ :: xs, _, h => zEF xs _ (h.put _ _)
theorem zDl {l : List UInt8} : ∀ (xs : List (List UInt8 × Int)) (D : DataW Unit) (z : DataW Unit), (∀ x ∈ xs, x.1 ≠ l) → (xs.foldl putT D).atKey (.string l) z = D.atKey (.string l) z ∧ Maps.has (xs.foldl putT D) (.string l) = Maps.has D (.string l)
 | [], _, _, _ => ⟨rfl, rfl⟩
 | x :: xs, D, z, h => by
  have hne : (Lit.string l) ≠ Lit.string x.1 := fun e => h x (List.mem_cons_self ..) (Lit.string.inj e).symm;obtain ⟨h1, h2⟩ := zDl xs (putT D x) z (fun y hy => h y (List.mem_cons_of_mem _ hy));exact ⟨h1.trans (Maps.atKey_put_other hne _ _), h2.trans (Maps.has_put_other hne _)⟩
theorem zEE (l : List UInt8) : WideAt.IsKeyLit (Lit.string l) := trivial
theorem zKF (l : List UInt8) : ((mapT 21).atKey (.string l) (.lit (.int .i64 0)) = .lit (.int .i64 (((jY.find? fun x => decide (x.1 = l)).map (·.2)).getD 0))) ∧ Maps.has (mapT 21) (.string l) = (jY.find? fun x => decide (x.1 = l)).isSome := by
 have hm : mapT 21 = jY.foldl putT (.map []) := rfl;rw [hm]
 by_cases h : ∃ x ∈ jY, x.1 = l
 ·obtain ⟨x, hx, rfl⟩ := h
  obtain ⟨i, hi⟩ := List.getElem?_of_mem hx;have hil : i < 21 := (zK.1 hi).1;have H : ∀ i : Fin 21, ((jY.drop (i.val + 1)).all fun y => decide (y.1 ≠ (jY[i.val]'i.isLt).1)) = true ∧ (jY.find? fun y => decide (y.1 = (jY[i.val]'i.isLt).1)) = some (jY[i.val]'i.isLt) := by decide +kernel
  obtain ⟨H1, H2⟩ := H ⟨i, hil⟩;have hxe : jY[i]'hil = x := (zK.1 hi).2;simp only [hxe] at H1 H2;rw [H2]
  have e : jY = jY.take i ++ x :: jY.drop (i + 1) := by
   rw [← zK.1 hi |>.2, List.getElem_cons_drop, List.take_append_drop]
  have hd : ∀ y ∈ jY.drop (i + 1), y.1 ≠ x.1 := fun y hy => of_decide_eq_true (List.all_eq_true.1 H1 y hy)
  have ef : jY.foldl putT (.map []) = (jY.drop (i + 1)).foldl putT (putT ((jY.take i).foldl putT (.map [])) x) := by
   conv => lhs; rw [e, List.foldl_append, List.foldl_cons]
  rw [ef];obtain ⟨h1, h2⟩ := zDl (jY.drop (i + 1)) (putT ((jY.take i).foldl putT (.map [])) x) (.lit (.int .i64 0)) hd;have hM := zEF (jY.take i) (.map []) Maps.isMap_empty;exact ⟨h1.trans (Maps.atKey_put_same hM (zEE _) _ _), h2.trans (Maps.has_put_same hM (zEE _) _)⟩
 ·have hn : ∀ x ∈ jY, x.1 ≠ l := fun x hx e => h ⟨x, hx, e⟩
  have hf : (jY.find? fun x => decide (x.1 = l)) = none := List.find?_eq_none.2 (fun x hx => by simpa using hn x hx);rw [hf];obtain ⟨h1, h2⟩ := zDl jY (.map []) (.lit (.int .i64 0)) hn;exact ⟨h1, h2⟩
def offT (k : Nat) : Nat := [0, 0, 1, 2, 3, 4, 5, 6, 7, 8, 9, 10, 12, 14, 16, 19, 20, 21].getD k 0
def lenT (k : Nat) : Nat := [0, 1, 1, 1, 1, 1, 1, 1, 1, 1, 1, 2, 2, 2, 3, 1, 1].getD k 0
theorem zJm {k : Nat} (h : k < 17) : offT (k + 1) = offT k + lenT k := by
 have H : ∀ k : Fin 17, offT (k.val + 1) = offT k.val + lenT k.val := by decide
 exact H ⟨k, h⟩
theorem zDk {k m : Nat} (h : k < 17) (hm : m < lenT k) : offT k + m < 21 ∧ m < 3 := by
 have H : ∀ k : Fin 17, offT k.val + lenT k.val ≤ 21 ∧ lenT k.val ≤ 3 := by decide
 have := H ⟨k, h⟩;constructor
 ·have := this.1; simp only at this; omega
 ·have := this.2; simp only at this; omega
theorem zKC {k m : Nat} (h : k < 17) (hm : m < lenT k) : ∃ nm, jY[offT k + m]? = some (nm, (k : Int)) ∧ nm.length ≤ 10 ∧ ∃ cs : Array Value, uC[k - 1]? = some (.cells cs 9) ∧ cs[m]? = some (.string ⟨nm.toArray⟩) ∧ 1 ≤ k := by
 have hm3 := (zDk h hm).2;have e1 : k = 0 ∨ k = 1 ∨ k = 2 ∨ k = 3 ∨ k = 4 ∨ k = 5 ∨ k = 6 ∨ k = 7 ∨ k = 8 ∨ k = 9 ∨ k = 10 ∨ k = 11 ∨ k = 12 ∨ k = 13 ∨ k = 14 ∨ k = 15 ∨ k = 16 := by omega
 have e2 : m = 0 ∨ m = 1 ∨ m = 2 := by omega
 clear h hm3;rcases e1 with rfl | rfl | rfl | rfl | rfl | rfl | rfl | rfl | rfl | rfl | rfl | rfl | rfl | rfl | rfl | rfl | rfl <;> rcases e2 with rfl | rfl | rfl <;> first | exact absurd hm qV | exact ⟨_, rfl, by decide, _, rfl, rfl, by decide⟩
end Go.Proofs.Qw
namespace Go.Proofs.YtjgeadoncanheaaGreatDoor
open Go.RowKit
open Go.Proofs.Qw
open _root_.Go.Proofs.Tryz renaming prog → zV
theorem zHw (c : Int) (w : World) (h1 : 0 ≤ c) (h2 : c ≤ 1114111) :
  Calls zV 229 #[.int .i32 c] w fun e w' => e = .returned (.int .i32 (lowR c)) ∧ w' = w := by
 have e1 : ∀ c : Int, 0 ≤ c → c ≤ 1114111 → IntKind.i32.wrap (c + 97) = c + 97 := fun c h1 h2 => IntWalk.i32_in _ qC;unfold lowR;go_enter Tryz.func229, Tryz.ntmps229;go_wp2_with fail
 all_goals
  go_ret;refine ⟨?_, rfl⟩;refine congrArg Ending.returned (zBo ?_)
 all_goals first
  | rfl
  | (rw [if_pos ⟨by assumption, by assumption⟩]; rfl)
  | omega
  | (rw [if_neg qC]; rfl)
theorem zGO (w : World) : MapGrows zV 229 #[] lowR w := fun W x hx _ => (zHw (x : Int) W qC qC).mono fun _ _ ⟨h1, h2⟩ => ⟨h1, h2 ▸ Below.refl _ _⟩
theorem zIk (s : ByteArray) (w : World) (he : EnvT w) (hs : s.size ≤ 1000000) :
  Calls zV 193 #[.string s] w fun e w' => e = .returned (.string ⟨(Lib.mapD lowR s.data.toList).toArray⟩) ∧ Below w.heap.size w w' := by
 have HC : Hid (∀ W, EnvT W → Calls zV 81 #[.func (.func 229) #[] #[], .string s] W fun e w' => e = .returned (.string ⟨(Lib.mapD lowR s.data.toList).toArray⟩) ∧ Below W.heap.size W w') := Lib.hid fun W hW =>
  Tryz.strings_Map_grows 229 #[] (enters_of Tryz.func229 zT rfl) lowR s W qC (zGO W) zCO hW.2
 go_enter Tryz.func193, Tryz.ntmps193;go_wp2_with (go_at_call 81; refine (HC.out _ he).mono ?_; rintro e w2 ⟨rfl, hb2⟩);go_ret;exact ⟨rfl, hb2⟩
theorem zHK (c : Int) (w : World) (h1 : 0 ≤ c) (h2 : c ≤ 1114111) :
  Calls zV 82 #[.int .i32 c] w fun e w' => e = .returned (.int .i32 (lowR c)) ∧ w' = w := by
 have e1 : ∀ c : Int, 0 ≤ c → c ≤ 1114111 → IntKind.i32.wrap (c + 97) = c + 97 := fun c h1 h2 => IntWalk.i32_in _ qC;unfold lowR;go_enter Tryz.func82, Tryz.ntmps82;go_wp2_with fail
 all_goals
  go_ret;refine ⟨?_, rfl⟩;refine congrArg Ending.returned (zBo ?_)
 all_goals first
  | rfl
  | (rw [if_pos ⟨by assumption, by assumption⟩]; rfl)
  | omega
  | (rw [if_neg qC]; rfl)
theorem zGX (w : World) : MapGrows zV 82 #[] lowR w := fun W x hx _ => (zHK (x : Int) W qC qC).mono fun _ _ ⟨h1, h2⟩ => ⟨h1, h2 ▸ Below.refl _ _⟩
theorem zEx (s : ByteArray) (w : World) (he : EnvT w) (hs : s.size ≤ 1000000) :
  Calls zV 40 #[.string s] w fun e w' => e = .returned (.string ⟨(Lib.mapD lowR s.data.toList).toArray⟩) ∧ Below w.heap.size w w' := by
 have HC : Hid (∀ W, EnvT W → Calls zV 81 #[.func (.func 82) #[] #[], .string s] W fun e w' => e = .returned (.string ⟨(Lib.mapD lowR s.data.toList).toArray⟩) ∧ Below W.heap.size W w') := Lib.hid fun W hW =>
  Tryz.strings_Map_grows 82 #[] (enters_of Tryz.func82 zT rfl) lowR s W qC (zGX W) zCO hW.2
 go_enter Tryz.func40, Tryz.ntmps40;go_wp2_with (go_at_call 81; refine (HC.out _ he).mono ?_; rintro e w2 ⟨rfl, hb2⟩);go_ret;exact ⟨rfl, hb2⟩
end Go.Proofs.YtjgeadoncanheaaGreatDoor
namespace Go.Proofs.YtjgeadoncanheaaGreatDoor
open Go.RowKit
open Go.Proofs.Qw
attribute [local go_sem] Oper.semAt_some
open _root_.Go.Lib renaming hid → zA
open _root_.Nat renaming le_refl → zC
open _root_.Go.RowKit.Below renaming refl → zE
open _root_.Go.Proofs.Tryz renaming prog → zV
def zBt (n k : Nat) : Value := .slice (if k = 0 then none else some ⟨n + k, 0, none⟩) (lenT k) (lenT k)
def zAM (k : Nat) : Int := [1, 2, 3, 3, 3, 3, 2, 2, 2, 3, 4, 4, 4, 4, 4, 4, 5].getD k 0
set_option maxRecDepth 100000 in
theorem zES (n : Nat) : ∀ k : Nat, k < 17 → ∀ w, (Instr.index 108 (.agg (tagV n)) (.int .i64 k)).run zV w = .ok (.agg #[zBt n k, .int .i64 (zAM k)]) w := fun k hk w => by
 have e1 : k = 0 ∨ k = 1 ∨ k = 2 ∨ k = 3 ∨ k = 4 ∨ k = 5 ∨ k = 6 ∨ k = 7 ∨ k = 8 ∨ k = 9 ∨ k = 10 ∨ k = 11 ∨ k = 12 ∨ k = 13 ∨ k = 14 ∨ k = 15 ∨ k = 16 := by omega
 clear hk;rcases e1 with rfl | rfl | rfl | rfl | rfl | rfl | rfl | rfl | rfl | rfl | rfl | rfl | rfl | rfl | rfl | rfl | rfl <;> rfl
set_option maxRecDepth 100000 in
theorem zGN (w : World) : Calls zV 192 #[] w fun e w' => e = .returned (.map (some w.heap.size)) ∧ w'.ownsMap zV 9 (plainElem zV 3) w.heap.size 21 (mapT 21) ∧ Below w.heap.size w w' := by
 have hmm := @run_makeMap zV;have hW1 : (w.alloc (.map #[] 0)).ownsMap zV 9 (plainElem (H := Unit) zV 3) w.heap.size 0 (.map []) := World.ownsMap_made w _ _ _;obtain ⟨W1, hWe⟩ : ∃ W1, w.alloc (.map #[] 0) = W1 := ⟨_, rfl⟩;rw [hWe] at hW1;have hB1 : Below w.heap.size w W1 := hWe ▸ (zE _ _).alloc (zC _) _;have hz1 : W1.heap.size = w.heap.size + 1 := by rw [← hWe]; simp
 have HWe := zA hWe;have HM := zA hW1;have HB1 := zA hB1;clear hWe hW1 hB1;go_enter Tryz.func192, Tryz.ntmps192;go_wp2_with (go_at_call 99; rw [HWe.out]; refine (zDP _).mono ?_; rintro e w2 ⟨rfl, hb2, ho2⟩);have hIx : ∀ (k : Nat), k < 17 → ∀ X, (Instr.index 108 (.agg (tagV (w.heap.size + 1))) (.int .i64 k)).run zV X = .ok (.agg #[zBt (w.heap.size + 1) k, .int .i64 (zAM k)]) X := fun k hk X => zES _ k hk X;have HIx := zA hIx;have HO2 := zA ho2;have HM2 : Hid (w2.ownsMap zV 9 (plainElem (H := Unit) zV 3) w.heap.size 0 (.map [])) := zA (HM.out.kept (zBC hb2) qE);have HB2 := zA (HB1.out.trans (hb2.mono HB1.out.size));have HOb : Hid (∀ (k : Nat) (o : Obj), uC[k]? = some o → w2.heap[w.heap.size + 1 + (k + 1)]? = some o) := zA fun k o hk => by rw [← hz1]; exact ho2 k o hk
 have hz2 := hb2.size;clear hIx ho2 hb2 hmm;go_loopw [8, 2, 3, 5, 15] (fun z _ _ _ _ wr => ∃ k : Nat, k ≤ 17 ∧ z = .int .i64 k ∧ Hid (wr.ownsMap zV 9 (plainElem (H := Unit) zV 3) w.heap.size (offT k) (mapT (offT k))) ∧ Hid (Below w.heap.size w wr) ∧ Hid (∀ (k : Nat) (o : Obj), uC[k]? = some o → wr.heap[w.heap.size + 1 + (k + 1)]? = some o) ∧ w2.heap.size ≤ wr.heap.size) (fun z _ _ _ _ _ => 17 - (intOf z).toNat)
 case atStart => exact ⟨0, by omega, rfl, HM2, HB2, HOb, zC _⟩
 case round =>
  obtain ⟨k, hk, rfl, HMk, HBk, HOk, hzk⟩ := hrel
  by_cases hlt : k < 17
  ·have hix := HIx.out k hlt
   have i1 : (k : Int) < 17 := by omega
   unfold zBt at hix;obtain ⟨ad, had⟩ : ∃ ad, (if k = 0 then none else some (⟨w.heap.size + 1 + k, 0, none⟩ : Addr)) = ad := ⟨_, rfl⟩;rw [had] at hix
   have HAD : Hid (0 < lenT k → ad = some ⟨w.heap.size + 1 + k, 0, none⟩) := zA fun h => by
    rw [← had, if_neg];rintro rfl;exact absurd h qV
   clear had;obtain ⟨ln, hln⟩ : ∃ n, lenT k = n := ⟨_, rfl⟩;rw [hln] at hix HAD;obtain ⟨cl, hcl⟩ : ∃ c, zAM k = c := ⟨_, rfl⟩;rw [hcl] at hix;clear hcl;have HLN := zA hln;have HLT := zA hlt;clear hln hlt;go_wp2_with fail;obtain ⟨wa, hwa⟩ : ∃ wa, wr.alloc (.cells #[.slice ad ln ln, .int .i64 cl] 82) = wa := ⟨_, rfl⟩;rw [hwa];have hba : Below wr.heap.size wr wa := hwa ▸ (zE _ _).alloc (zC _) _;have HMa : Hid (wa.ownsMap zV 9 (plainElem (H := Unit) zV 3) w.heap.size (offT k + 0) (mapT (offT k + 0))) := zA (hwa ▸ HMk.out.alloc _);have hza := hba.size;have HBa := zA (HBk.out.trans (hba.mono HBk.out.size));have HOa : Hid (∀ (k : Nat) (o : Obj), uC[k]? = some o → wa.heap[w.heap.size + 1 + (k + 1)]? = some o) := zA fun k o hk => jG hba (HOk.out k o hk);clear hwa hba;go_loopw [15, 5] (fun z _ wr => ∃ m : Nat, m ≤ ln ∧ z = .int .i64 m ∧ Hid (wr.ownsMap zV 9 (plainElem (H := Unit) zV 3) w.heap.size (offT k + m) (mapT (offT k + m))) ∧ Hid (Below w.heap.size w wr) ∧ Hid (∀ (k : Nat) (o : Obj), uC[k]? = some o → wr.heap[w.heap.size + 1 + (k + 1)]? = some o) ∧ w2.heap.size ≤ wr.heap.size) (fun z _ _ => ln - (intOf z).toNat)
   case atStart => exact ⟨0, by omega, rfl, HMa, HBa, HOa, by omega⟩
   case round =>
    obtain ⟨m, hm, rfl, HMm, HBm, HOm, hzm⟩ := hrel
    by_cases hlt2 : m < ln
    ·have HLT2 := zA hlt2
     obtain ⟨nm, ht1, hn1, cs, ht2, ht3, hk1⟩ := zKC HLT.out (by rw [HLN.out]; exact hlt2 : m < lenT k);have had := HAD.out qC;subst had;have hcell := HOm.out (k - 1) _ ht2;rw [show w.heap.size + 1 + (k - 1 + 1) = w.heap.size + 1 + k by omega] at hcell;obtain ⟨p1, f1⟩ := blk hcell;have c1 : wr.cell? ⟨w.heap.size + 1 + k, m, none⟩ = some (.string ⟨nm.toArray⟩) := (p1 m).trans ht3;have HN := zA (And.intro ht1 hn1);have j0 : (0 : Int) ≤ (m : Int) := Int.natCast_nonneg _;have j1 : (m : Int) < (ln : Int) := by omega
     have hroom : offT k + m < maxLen := by
      have := (zDk HLT.out (by rw [HLN.out]; exact hlt2 : m < lenT k)).1;unfold maxLen
      omega
     have hkw : (Lit.int .i64 (k : Int)).wf = true := by
      have H : ∀ k : Fin 17, (Lit.int .i64 (k.val : Int)).wf = true := by decide
      exact H ⟨k, HLT.out⟩
     have HUP := zA (And.intro hroom hkw);have hm3 : m < 3 := (zDk HLT.out (by rw [HLN.out]; exact hlt2 : m < lenT k)).2;clear p1 f1 hcell ht1 ht2 ht3 hn1 hroom hkw
     go_wp2_with (first
      | (at_mapUpdate; go_must (refine wpList_mapUpdate_own _ rfl _ _ _ 198 rfl 9 3 (Maps.string_keyed Tryz.underlying9) Tryz.underlying198 (plainElem (H := Unit) zV 3) w.heap.size (offT k + m) (mapT (offT k + m)) rfl HMm.out HUP.out.1 (.string ⟨nm.toArray⟩) (.int .i64 k) (.string nm) rfl rfl (Go.WideMaps.keyOf_string_mk Tryz.underlying9 (by show nm.toArray.size ≤ maxLen; simp [maxLen]; have := HN.out.2; omega)) (.lit (.int .i64 k)) [] (plainElem_int Tryz.underlying3 HUP.out.2) ?_; intro w5 hown5 hg5)))
     go_roundw
     case rel =>
      refine ⟨m + 1, HLT2.out, by go_num, zA ?_, zA (HBm.out.grown hg5 (by have := HBm.out.size; omega) (fun j e => by cases e; exact zC _)), zA (fun j o h => (hg5.block _ (Array.getElem?_eq_some_iff.1 (HOm.out j o h)).1 (by intro e; have := Option.some.inj e; omega)).trans (HOm.out j o h)), by have := hg5.size; omega⟩;rw [show offT k + (m + 1) = offT k + m + 1 from rfl, zJo HN.out.1];exact hown5
     case measure => have := HLT2.out; simp [intOf]; omega
    ·obtain rfl : m = ln := by omega
     have HMn : Hid (wr.ownsMap zV 9 (plainElem (H := Unit) zV 3) w.heap.size (offT (k + 1)) (mapT (offT (k + 1)))) := zA (by rw [zJm HLT.out, HLN.out]; exact HMm.out);go_wp2_with fail;go_roundw
     case rel => exact ⟨k + 1, HLT.out, by have := HLT.out; go_num, HMn, HBm, HOm, hzm⟩
     case measure => have := HLT.out; simp [intOf]; omega
  ·obtain rfl : k = 17 := by omega
   go_wp2_with fail;go_ret;exact ⟨rfl, HMk.out, HBk.out⟩
theorem zHU (z : Int) : (Lib.encodeRune z).length ≤ 4 := by
 unfold Lib.encodeRune Lib.encodeRuneZ;rw [List.length_map]
 repeat' split
 all_goals simp
theorem zEY (f : Int → Int) : ∀ (n : Nat) (l : List UInt8), l.length ≤ n → (Lib.mapD f l).length ≤ 4 * l.length
 | 0, l, hn => by
  have : l = [] := List.eq_nil_of_length_eq_zero qC;subst this;simp [Lib.mapD_nil]
 | n + 1, l, hn => by
  by_cases hne : l = []
  ·subst hne
   simp [Lib.mapD_nil]
  ·have hw := Lib.decodeL_width l
   have hle := Lib.decodeL_le l hne;have ih := zEY f n (l.drop (Lib.decodeL l).2) zAV;rw [List.length_drop] at ih;rw [Lib.mapD_step f l hne, List.length_append]
   have hh : (if 0 ≤ f (Lib.decodeL l).1 then Lib.encodeRune (f (Lib.decodeL l).1) else []).length ≤ 4 := by
    split
    ·exact zHU _
    ·simp
   omega
theorem zDW {α : Type} {p q : α → Bool} : ∀ (l : List α), (∀ x ∈ l, p x = q x) → l.find? p = l.find? q
 | [], _ => rfl
 | x :: l, h => by
  rw [List.find?_cons, List.find?_cons, h x (List.mem_cons_self ..), zDW l (fun y hy => h y (List.mem_cons_of_mem _ hy))]
theorem zJU (l : List UInt8) : (jY.find? fun x => decide (x.1 = Lib.mapD lowR l)) = jY.find? fun x => decide (x.1 = l.map lowB) := by
 refine zDW _ (fun x hx => ?_);have H : ∀ x ∈ jY, ∀ b ∈ x.1, b.toNat < 128 := by decide +kernel
 have := zBV l.length l x.1 (zC _) (H x hx);exact decide_eq_decide.2 ⟨fun e => (this.1 e.symm).symm, fun e => (this.2 e.symm).symm⟩
set_option maxRecDepth 100000 in
theorem zBI (s : ByteArray) (w : World) (he : EnvT w) (hs : s.size ≤ 1000000) :
  Calls zV 131 #[.string s] w fun e w' => e = .returned (.tuple #[.int .i64 ((tagF s.data.toList).getD 0), .bool (tagF s.data.toList).isSome]) ∧ Below w.heap.size w w' := by
 obtain ⟨ky, hky⟩ : ∃ k, Lib.mapD lowR s.data.toList = k := ⟨_, rfl⟩
 have hkl : ky.length ≤ maxLen := by
  have h1 := zEY lowR s.data.toList.length s.data.toList (zC _);rw [hky] at h1;have h2 : s.data.toList.length = s.size := Array.length_toList;unfold maxLen
  omega
 have HL : Hid (∀ W, Below w.heap.size w W → Calls zV 193 #[.string s] W fun e w' => e = .returned (.string ⟨ky.toArray⟩) ∧ Below W.heap.size W w') := zA fun W hW => by
  have := zIk s W (he.below hW) hs;rw [hky] at this;exact this
 have HT : Hid (tagF s.data.toList = (jY.find? fun x => decide (x.1 = ky)).map (·.2)) := zA (by
  unfold tagF;rw [← zJU, hky])
 have HK := zA hkl;clear hky hkl he;go_enter Tryz.func131, Tryz.ntmps131
 go_wp2_with (first
  | (go_at_call 192; refine (zGN _).mono ?_; rintro e w2 ⟨rfl, hown2, hb2⟩; have HO2 := zA hown2; clear hown2)
  | (go_at_call 193; refine (HL.out _ hb2).mono ?_; rintro e w3 ⟨rfl, hst3⟩; have HO3 := zA (HO2.out.kept (zBC hst3) qE); have hb3 := jF hb2 hst3)
  | (at_lookup; go_must (refine wpList_lookup_own_ok_int _ rfl _ _ 198 rfl 9 3 .i64 (Maps.string_keyed Tryz.underlying9) Tryz.underlying198 Tryz.underlying3 xX w.heap.size 21 (mapT 21) rfl HO3.out (.string ⟨ky.toArray⟩) (.string ky) rfl (Go.WideMaps.keyOf_string_mk Tryz.underlying9 (by show ky.toArray.size ≤ maxLen; simpa using HK.out)) ?_; intro c hc _)))
 go_ret2;obtain ⟨h1, h2⟩ := zKF ky;rw [h1] at hc;have hc' := Lit.int.inj (DataW.lit.inj hc);refine ⟨?_, hb3⟩;rw [HT.out];refine congrArg Ending.returned (congrArg Value.tuple ?_)
 show #[Value.int .i64 c, Value.bool (Maps.has (mapT 21) (Lit.string ky))] = _
 rw [h2, ← hc'.2, Option.isSome_map]
theorem zBz (t : Int) (w : World) : Calls zV 132 #[.int .i64 t] w fun e w' => e = .returned (.int .i64 (if 3 ≤ t ∧ t ≤ 5 then t - 2 else 0)) ∧ Below w.heap.size w w' := by
 by_cases h : 3 ≤ t ∧ t ≤ 5
 ·rw [if_pos h]
  have : t = 3 ∨ t = 4 ∨ t = 5 := by omega
  rcases this with rfl | rfl | rfl
  all_goals
   go_enter Tryz.func132, Tryz.ntmps132;go_wp2_with fail;go_ret;exact ⟨rfl, zE _ _⟩
 ·rw [if_neg h]
  rcases (show t < 3 ∨ (3 ≤ t ∧ 5 < t) by omega) with h | ⟨h1, h2⟩
  all_goals
   go_enter Tryz.func132, Tryz.ntmps132;go_wp2_with fail;go_ret;exact ⟨rfl, zE _ _⟩
theorem zHx (k : Int) (hk : 0 ≤ k ∧ k ≤ 3) (w : World) : Calls zV 32 #[.int .i64 k] w fun e w' => e = .returned (.tuple #[.int .i64 (k + 2), .bool true]) ∧ Below w.heap.size w w' := by
 have : k = 0 ∨ k = 1 ∨ k = 2 ∨ k = 3 := by omega
 rcases this with rfl | rfl | rfl | rfl
 all_goals
  go_enter Tryz.func32, Tryz.ntmps32;go_wp2_with fail;go_ret2;exact ⟨rfl, zE _ _⟩
end Go.Proofs.YtjgeadoncanheaaGreatDoor
namespace Go.Proofs.Qw
open Go.RowKit Go.Proofs.YtjgeadoncanheaaGreatDoor
theorem zFt {α : Type} (f : α → Bool) : ∀ (l : List α) (k : Nat), jS f k l = match l.findIdx? f with | some i => ((k + i : Nat) : Int) | none => -1
 | [], _ => rfl
 | x :: l, k => by
  rw [jS, List.findIdx?_cons];cases h : f x with
  | true => rw [if_pos rfl]; rfl
  | false =>
   rw [if_neg qE, zFt f l (k + 1)];simp only [Bool.false_eq_true, if_false];cases l.findIdx? f with
   | none => rfl
   | some i => show ((k + 1 + i : Nat) : Int) = ((k + (i + 1) : Nat) : Int); omega
def kH (name : List UInt8) : Nat := (jT name).getD 0
theorem zKm (name : List UInt8) : jS (fun c : Cmd => decide (Lib.mapD lowR c.name = Lib.mapD lowR name)) 0 cmds = match jT name with | some k => (k : Int) | none => -1 := by
 rw [zFt]
 have e : cmds.findIdx? (fun c : Cmd => decide (Lib.mapD lowR c.name = Lib.mapD lowR name)) = jT name := by
  unfold jT
  have H : ∀ (l : List Cmd), (∀ c ∈ l, ∀ b ∈ c.name, b.toNat < 128) → l.findIdx? (fun c : Cmd => decide (Lib.mapD lowR c.name = Lib.mapD lowR name)) = l.findIdx? (fun c : Cmd => decide (c.name.map lowB = name.map lowB)) := fun l => by
   induction l with
   | nil => intro _; rfl
   | cons c l ih =>
    intro h;rw [List.findIdx?_cons, List.findIdx?_cons, ih (fun c hc => h c (List.mem_cons_of_mem _ hc)), decide_eq_decide.2 (zLg (h c (List.mem_cons_self ..)) name)]
  exact H cmds zIN
 rw [e];cases jT name with
 | none => rfl
 | some k => show ((0 + k : Nat) : Int) = _; rw [Nat.zero_add]
end Go.Proofs.Qw
namespace Go.Proofs.YtjgeadoncanheaaGreatDoor
open Go.RowKit
open Go.Proofs.Qw
attribute [local go_sem] Oper.semAt_some
open _root_.Go.Lib renaming hid → zA
open _root_.Nat renaming le_refl → zC
open _root_.Go.RowKit.Below renaming refl → zE
open _root_.Go.BigFrame renaming wpQuiet_want → zI
open _root_.Go.Act renaming put → zU
open _root_.Go.Proofs.Tryz renaming prog → zV
open _root_.Go.Proofs.YtjgeadoncanheaaGreatDoor renaming jF → zW
open _root_.Go.Proofs.Qw renaming kR → qK
set_option maxRecDepth 100000 in
theorem zKX (n : Nat) {k : Nat} {c : Cmd} (h : cmds[k]? = some c) : (tabV n)[k * 4]? = some (.string ⟨c.name.toArray⟩) ∧ (tabV n)[k * 4 + 1]? = some (.string ⟨c.input.toArray⟩) ∧ (tabV n)[k * 4 + 2]? = some (.int .i64 c.data) ∧ ∃ g caps, (zAr n)[k]? = some (.func (.func g) #[] caps) ∧ (tabV n)[k * 4 + 3]? = some (.func (.func g) #[] caps) := by
 have hk := (List.getElem?_eq_some_iff.1 h).1;have e1 : k = 0 ∨ k = 1 ∨ k = 2 ∨ k = 3 ∨ k = 4 ∨ k = 5 ∨ k = 6 ∨ k = 7 ∨ k = 8 ∨ k = 9 ∨ k = 10 ∨ k = 11 ∨ k = 12 ∨ k = 13 ∨ k = 14 ∨ k = 15 ∨ k = 16 := by have : k < 17 := hk; omega
 clear hk;rcases e1 with rfl | rfl | rfl | rfl | rfl | rfl | rfl | rfl | rfl | rfl | rfl | rfl | rfl | rfl | rfl | rfl | rfl <;> (cases h; exact ⟨rfl, rfl, rfl, _, _, rfl, rfl⟩)
theorem zGZ (c : Cmd) (g : Nat) (caps : Array Value) (name : ByteArray) (Bn : Nat) (w : World) (he : EnvT w) (hc : c.name.length ≤ 1000) (hs : name.size ≤ 1000000) (hB : w.heap[Bn]? = some (.cells #[.string name] 9)) :
  Calls zV 39 #[.agg #[.string ⟨c.name.toArray⟩, .string ⟨c.input.toArray⟩, .int .i64 c.data, .func (.func g) #[] caps], .pointer (some ⟨Bn, 0, none⟩)] w fun e w' => e = .returned (.bool (decide (Lib.mapD lowR c.name = Lib.mapD lowR name.data.toList))) ∧ Below w.heap.size w w' := by
 obtain ⟨a, ha⟩ : ∃ a, Lib.mapD lowR c.name = a := ⟨_, rfl⟩;obtain ⟨b, hb⟩ : ∃ a, Lib.mapD lowR name.data.toList = a := ⟨_, rfl⟩
 have HL1 : Hid (∀ W, Below w.heap.size w W → Calls zV 40 #[.string ⟨c.name.toArray⟩] W fun e w' => e = .returned (.string ⟨a.toArray⟩) ∧ Below W.heap.size W w') := zA fun W hW => by
  have := zEx ⟨c.name.toArray⟩ W (he.below hW) (by show c.name.toArray.size ≤ _; simp; omega);rw [show (⟨c.name.toArray⟩ : ByteArray).data.toList = c.name from rfl, ha] at this;exact this
 have HL2 : Hid (∀ W, Below w.heap.size w W → Calls zV 40 #[.string name] W fun e w' => e = .returned (.string ⟨b.toArray⟩) ∧ Below W.heap.size W w') := zA fun W hW => by
  have := zEx name W (he.below hW) hs;rw [hb] at this;exact this
 rw [ha, hb];obtain ⟨W1, hW1⟩ : ∃ W1, w.alloc (.cells #[.string ⟨c.name.toArray⟩, .string ⟨c.input.toArray⟩, .int .i64 c.data, .func (.func g) #[] caps] 63) = W1 := ⟨_, rfl⟩;have hB1 : Below w.heap.size w W1 := hW1 ▸ (zE _ _).alloc (zC _) _;have H1 := zA hB1;have HF : Hid (∀ W, Below W1.heap.size W1 W → W.heap[w.heap.size]? = some (.cells #[.string ⟨c.name.toArray⟩, .string ⟨c.input.toArray⟩, .int .i64 c.data, .func (.func g) #[] caps] 63) ∧ W.heap[Bn]? = some (.cells #[.string name] 9)) := zA fun W hW => ⟨jG hW (hW1 ▸ jD _ _ rfl), jG hW (jG hB1 hB)⟩;have hs1 := hB1.size;have HW1 := zA hW1;clear he ha hb hB hB1 hW1;go_enter Tryz.func39, Tryz.ntmps39;go_wp2_with fail;rw [HW1.out];refine kX W1.heap.size zT zT ?_;refine zI zT (fun K hK => ?_);refine qK ?_ (fun W hW => ?_) (hK _ ?_);rotate_left 1
 ·skip
  go_simp
  try rfl
 clear hK;clear K;try simp only [zU, qI, qX, qY]
 refine zI zT (fun K hK => ?_);refine qK ?_ (fun W hW => ?_) (hK _ ?_);rotate_left 1
 ·skip
  go_simp
  try rfl
 clear hK;clear K;try simp only [zU, qI, qX, qY]
 refine zI zT (fun K hK => ?_);refine qK ?_ (fun W hW => ?_) (hK _ ?_);rotate_left 1
 ·obtain ⟨p0, f0⟩ := blk (HF.out _ hW).1
  go_simp
  try rfl
 clear hK;clear K;try simp only [zU, qI, qX, qY]
 refine zI zT (fun K hK => ?_);refine vP (f := ?_) (args := ?_) ?_ (fun W hW => ?_) (fun W hW => ?_) (hK _ ?_);rotate_left 3
 ·go_simp
  constructor <;> rfl
 ·refine (HL1.out _ (zW H1.out hW)).mono ?_
  rintro e W2 ⟨rfl, hbW⟩;refine ⟨?_, zW hW hbW⟩
  rfl
 clear hK;clear K;try simp only [zU, qI, qX, qY]
 refine zI zT (fun K hK => ?_);refine qK ?_ (fun W hW => ?_) (hK _ ?_);rotate_left 1
 ·obtain ⟨p0, f0⟩ := blk (HF.out _ hW).2
  go_simp
  try rfl
 clear hK;clear K;try simp only [zU, qI, qX, qY]
 refine zI zT (fun K hK => ?_);refine vP (f := ?_) (args := ?_) ?_ (fun W hW => ?_) (fun W hW => ?_) (hK _ ?_);rotate_left 3
 ·go_simp
  constructor <;> rfl
 ·refine (HL2.out _ (zW H1.out hW)).mono ?_
  rintro e W2 ⟨rfl, hbW⟩;refine ⟨?_, zW hW hbW⟩
  rfl
 clear hK;clear K;try simp only [zU, qI, qX, qY]
 refine zI zT (fun K hK => ?_);refine qK ?_ (fun W hW => ?_) (hK _ ?_);rotate_left 1
 ·skip
  go_simp
  try rfl
 clear hK;clear K;try simp only [zU, qI, qX, qY]
 refine zI zT (fun K hK => ?_);refine qK ?_ (fun W hW => ?_) (hK _ ?_);rotate_left 1
 ·skip
  go_simp
  try rfl
 clear hK;clear K;try simp only [zU, qI, qX, qY]
 refine wpQuiet_nil (fun X6 hstX6 => ?_);go_wp2_with fail;go_ret;refine ⟨?_, H1.out.trans (hstX6.mono hs1)⟩;refine congrArg (fun b => Ending.returned (Value.bool b)) ?_
 by_cases e : a = b
 ·simp [e]
 ·simp [e]
theorem zHf (b n : Nat) (f : Cmd → Bool) (g : Nat) (lb : Array Value) (eg : ∀ args w, (callFunc g args).run zV w = .ok (.enter g args) w) (w : World) (he : EnvT w) (hb : w.heap[b]? = some (.cells (tabV n) 64))
  (hf : ∀ (i : Nat) (c : Cmd) (h : Nat) (caps : Array Value) (W : World), cmds[i]? = some c → EnvT W → Below w.heap.size w W → Calls zV g (#[.agg #[.string ⟨c.name.toArray⟩, .string ⟨c.input.toArray⟩, .int .i64 c.data, .func (.func h) #[] caps]] ++ lb) W fun e w' => e = .returned (.bool (f c)) ∧ Below W.heap.size W w') :
  Calls zV 38 #[.slice (some ⟨b, 0, none⟩) 17 17, .func (.func g) #[] lb] w fun e w' => e = .returned (.int .i64 (jS f 0 cmds)) ∧ Below w.heap.size w w' := by
 have HF := zA hf;have HBB := zA hb;have HN : Hid (jS f 0 cmds = jS f 0 (cmds.drop 0)) := zA rfl;obtain ⟨D, hD⟩ : ∃ D, cmds = D := ⟨_, rfl⟩;have hDl : D.length = 17 := hD ▸ rfl;have HTA : Hid (∀ (k : Nat) (c : Cmd), D[k]? = some c → (tabV n)[k * 4]? = some (.string ⟨c.name.toArray⟩) ∧ (tabV n)[k * 4 + 1]? = some (.string ⟨c.input.toArray⟩) ∧ (tabV n)[k * 4 + 2]? = some (.int .i64 c.data) ∧ ∃ g caps, (zAr n)[k]? = some (.func (.func g) #[] caps) ∧ (tabV n)[k * 4 + 3]? = some (.func (.func g) #[] caps)) := zA fun k c h => zKX n (by rw [hD]; exact h);rw [hD] at HF HN;rw [hD];have hlt := (Array.getElem?_eq_some_iff.1 hb).1;clear hf hb hD
 generalize tabV n = TV at *
 go_enter Tryz.func38, Tryz.ntmps38;go_wp2_with fail;go_loopw [8] (fun i wr => ∃ k : Nat, k ≤ 17 ∧ i = .int .i64 k ∧ jS f 0 D = jS f k (D.drop k) ∧ Below w.heap.size w wr) (fun i _ => 17 - (intOf i).toNat)
 case atStart => exact ⟨0, Nat.zero_le _, rfl, HN.out, zE _ _⟩
 case round =>
  obtain ⟨k, hk, rfl, hg, hbw⟩ := hrel
  by_cases hlt2 : k < 17
  ·obtain ⟨l, hl, hd⟩ := jO D k qC
   obtain ⟨t0, t1, t2, h, caps, _, t3⟩ := HTA.out k l hl;obtain ⟨p0, f0⟩ := blk (jG hbw HBB.out);have c0 := (p0 (k * 4)).trans t0;have c1 := (p0 (k * 4 + 1)).trans t1;have c2 := (p0 (k * 4 + 2)).trans t2;have c3 := (p0 (k * 4 + 3)).trans t3;obtain ⟨r, hr⟩ : ∃ r, f l = r := ⟨_, rfl⟩;have HG : Hid (jS f 0 D = if r = true then (k : Int) else jS f (k + 1) (D.drop (k + 1))) := zA (by rw [hg, hd, jS, hr]);have HC := zA (HF.out k l h caps wr hl (he.below hbw) hbw);have HLT := zA hlt2;rw [hr] at HC;have i1 : (k : Int) < 17 := by omega
   clear hd hl hg hr p0 f0 t0 t1 t2 t3;go_wp2_with (go_at_fn g; refine HC.out.mono ?_; rintro e w1 ⟨rfl, hb1⟩; cases r)
   ·go_roundw
    case rel => exact ⟨k + 1, HLT.out, by go_num, HG.out, zW hbw hb1⟩
    case measure => have := HLT.out; simp [intOf]; omega
   ·go_ret
    refine ⟨?_, zW hbw hb1⟩;rw [HG.out]
    rfl
  ·obtain rfl : k = 17 := by omega
   have HG : Hid (jS f 0 D = -1) := zA (by rw [hg, List.drop_eq_nil_of_le qC]; rfl);clear hg;go_wp2_with fail;go_ret;rw [HG.out];exact ⟨rfl, hbw⟩
set_option maxRecDepth 100000 in
theorem uQ (name : ByteArray) (w : World) (he : EnvT w) (hs : name.size ≤ 1000000) :
  Calls zV 15 #[.string name] w fun e w' => e = .returned (.tuple #[.int .i64 (kH name.data.toList), .bool (jT name.data.toList).isSome]) ∧ Below w.heap.size w w' := by
 obtain ⟨W1, hW1⟩ : ∃ W1, w.alloc (.cells #[.string name] 9) = W1 := ⟨_, rfl⟩;have hB1 : Below w.heap.size w W1 := hW1 ▸ (zE _ _).alloc (zC _) _;have hz1 : w.heap.size < W1.heap.size := by rw [← hW1]; simp
 have HN1 : Hid (∀ W, Below W1.heap.size W1 W → W.heap[w.heap.size]? = some (.cells #[.string name] 9)) := zA fun W hW => jG hW (hW1 ▸ jD _ _ rfl);have HE := zA (he.below hB1);have H1 := zA hB1;have HW1 := zA hW1
 have HI : Hid (∀ (W : World) (b n : Nat), Below W1.heap.size W1 W → W.heap[b]? = some (.cells (tabV n) 64) → Calls zV 38 #[.slice (some ⟨b, 0, none⟩) 17 17, .func (.func 39) #[] #[.pointer (some ⟨w.heap.size, 0, none⟩)]] W fun e w' => e = .returned (.int .i64 (match jT name.data.toList with | some k => (k : Int) | none => -1)) ∧ Below W.heap.size W w') := zA fun W b n hW hb => by
  have := zHf b n (fun c => decide (Lib.mapD lowR c.name = Lib.mapD lowR name.data.toList)) 39 #[.pointer (some ⟨w.heap.size, 0, none⟩)] (enters_of Tryz.func39 zT rfl) W ((he.below hB1).below hW) hb
   (fun i c h caps W' hc hE hW' => zGZ c h caps name w.heap.size W' hE (by
    have H : ∀ c ∈ cmds, c.name.length ≤ 1000 := by decide +kernel
    exact H c (List.mem_of_getElem? hc)) hs (HN1.out W' (zW hW hW')))
  rw [zKm] at this;exact this
 have hs1 := hB1.size;clear hW1 hB1 he;obtain ⟨r, hr⟩ : ∃ r, jT name.data.toList = r := ⟨_, rfl⟩;have HFN := zA (show kH name.data.toList = r.getD 0 by unfold kH; rw [hr]);rw [hr] at HI ⊢;rw [HFN.out];clear hr;cases r
 ·go_enter Tryz.func15, Tryz.ntmps15
  go_wp2_with (first
   | (go_at_call 37; rw [HW1.out]; refine (zAB _).mono ?_; rintro e w2 ⟨rfl, hb2, _⟩)
   | (refine wpList_store_row rfl 64 _ _ rfl w2.heap.size (tabV W1.heap.size) rfl rfl 64 _ (jD _ _ rfl) zT zT zT ?_
      have ht3 := setRow_heap (w2.alloc (.cells Tryz.zeroCells64 64)) w2.heap.size _ (tabV W1.heap.size) 64 _ (jD _ _ rfl);obtain ⟨w3, hw3⟩ : ∃ w3, (w2.alloc (.cells Tryz.zeroCells64 64)).setRow w2.heap.size (tabV W1.heap.size) = w3 := ⟨_, rfl⟩;have hst3 : Below w2.heap.size w2 w3 := hw3 ▸ zBE ((zE _ _).alloc (zC _) _) (zC _);rw [hw3] at ht3 ⊢;have hb3 := zW hb2 hst3;have HT3 := zA ht3;clear hw3 ht3)
   | (go_at_call 38; refine (HI.out _ _ _ hb3 HT3.out).mono ?_; rintro e w4 ⟨rfl, hst4⟩; have hb4 := zW hb3 hst4))
  go_ret2;exact ⟨rfl, H1.out.trans (hb4.mono hs1)⟩
 ·rename_i k
  have hk0 : ¬ (k : Int) < 0 := by omega
  go_enter Tryz.func15, Tryz.ntmps15
  go_wp2_with (first
   | (go_at_call 37; rw [HW1.out]; refine (zAB _).mono ?_; rintro e w2 ⟨rfl, hb2, _⟩)
   | (refine wpList_store_row rfl 64 _ _ rfl w2.heap.size (tabV W1.heap.size) rfl rfl 64 _ (jD _ _ rfl) zT zT zT ?_
      have ht3 := setRow_heap (w2.alloc (.cells Tryz.zeroCells64 64)) w2.heap.size _ (tabV W1.heap.size) 64 _ (jD _ _ rfl);obtain ⟨w3, hw3⟩ : ∃ w3, (w2.alloc (.cells Tryz.zeroCells64 64)).setRow w2.heap.size (tabV W1.heap.size) = w3 := ⟨_, rfl⟩;have hst3 : Below w2.heap.size w2 w3 := hw3 ▸ zBE ((zE _ _).alloc (zC _) _) (zC _);rw [hw3] at ht3 ⊢;have hb3 := zW hb2 hst3;have HT3 := zA ht3;clear hw3 ht3)
   | (go_at_call 38; refine (HI.out _ _ _ hb3 HT3.out).mono ?_; rintro e w4 ⟨rfl, hst4⟩; have hb4 := zW hb3 hst4))
  go_ret2;exact ⟨rfl, H1.out.trans (hb4.mono hs1)⟩
end Go.Proofs.YtjgeadoncanheaaGreatDoor
namespace Go.Proofs.Qw
def vV (c : Cmd) : List Value := [.string ⟨c.name.toArray⟩, .string ⟨c.input.toArray⟩, .int .i64 c.data]
end Go.Proofs.Qw
namespace Go.Proofs.YtjgeadoncanheaaGreatDoor
open Go.RowKit
open Go.Proofs.Qw
attribute [local go_sem] Oper.semAt_some
open _root_.Go.Lib renaming hid → zA
open _root_.Go.Proofs.Tryz renaming prog → zV
theorem zFS : RowT zV 31 34 3 := RowT.mk' (y := 40) Tryz.underlying31 zT qV (z := .agg #[.string ⟨#[]⟩, .string ⟨#[]⟩, .int .i64 0]) xX
theorem zLm : Elt 34 3 (rdOf vV) := zCd _ qV (fun _ => rfl) (fun x u hu => by simp [vV] at hu; rcases hu with rfl | rfl | rfl <;> rfl)
theorem zKa (c : Cmd) : ∀ u ∈ [Value.string ⟨c.name.toArray⟩, .string ⟨c.input.toArray⟩, .int .i64 c.data], u.oneCell' = true := by
 intro u hu;simp at hu;rcases hu with rfl | rfl | rfl <;> rfl
abbrev zAt (own : Bool) (w : World) (S : Nat → Prop) (v : Value) (l : List Cmd) : Prop := SliceR 34 3 (rdOf vV) own w S v l
set_option maxRecDepth 100000 in
theorem zIm (n : Nat) {k : Nat} {c : Cmd} (hc : cmds[k]? = some c) : ∃ g caps, ∀ X, (Instr.index 64 (.agg (tabV n)) (.int .i64 k)).run zV X = .ok (.agg #[.string ⟨c.name.toArray⟩, .string ⟨c.input.toArray⟩, .int .i64 c.data, .func (.func g) #[] caps]) X := by
 have hk : k < 17 := (List.getElem?_eq_some_iff.1 hc).1;have e1 : k = 0 ∨ k = 1 ∨ k = 2 ∨ k = 3 ∨ k = 4 ∨ k = 5 ∨ k = 6 ∨ k = 7 ∨ k = 8 ∨ k = 9 ∨ k = 10 ∨ k = 11 ∨ k = 12 ∨ k = 13 ∨ k = 14 ∨ k = 15 ∨ k = 16 := by omega
 clear hk;rcases e1 with rfl | rfl | rfl | rfl | rfl | rfl | rfl | rfl | rfl | rfl | rfl | rfl | rfl | rfl | rfl | rfl | rfl <;> (cases hc; exact ⟨_, _, fun _ => rfl⟩)
set_option maxRecDepth 100000 in
theorem zIr (w : World) : Calls zV 13 #[] w fun e w' => ∃ v, e = .returned v ∧ zAt true w' (fun b => w.heap.size ≤ b) v cmds ∧ Below w.heap.size w w' := by
 have HIX : Hid (∀ (n k : Nat) (c : Cmd), cmds[k]? = some c → ∃ g caps, ∀ X, (Instr.index 64 (.agg (tabV n)) (.int .i64 k)).run zV X = .ok (.agg #[.string ⟨c.name.toArray⟩, .string ⟨c.input.toArray⟩, .int .i64 c.data, .func (.func g) #[] caps]) X) := zA fun n k c h => zIm n h;obtain ⟨D, hD⟩ : ∃ D, cmds = D := ⟨_, rfl⟩;have hDl : D.length = 17 := hD ▸ rfl;rw [hD] at HIX ⊢;clear hD;go_enter Tryz.func13, Tryz.ntmps13;go_wp2_with (go_at_call 37; refine (zAB _).mono ?_; rintro e w2 ⟨rfl, hb2, _⟩);have HB2 := zA hb2;have hz2 := hb2.size;clear hb2
 generalize hTV : tabV w.heap.size = TV
 have HIX : Hid (∀ (k : Nat) (c : Cmd), D[k]? = some c → ∃ g caps, ∀ X, (Instr.index 64 (.agg TV) (.int .i64 k)).run zV X = .ok (.agg #[.string ⟨c.name.toArray⟩, .string ⟨c.input.toArray⟩, .int .i64 c.data, .func (.func g) #[] caps]) X) := zA fun k c h => hTV ▸ HIX.out w.heap.size k c h;clear hTV;go_loopw [1, 5, 3] (fun l z _ wr => ∃ k : Nat, k ≤ 17 ∧ z = .int .i64 k ∧ Hid (zAt true wr (fun b => w.heap.size ≤ b) l (D.take k)) ∧ Hid (Below w.heap.size w wr) ∧ w.heap.size ≤ wr.heap.size) (fun _ z _ _ => 17 - (intOf z).toNat)
 case atStart => exact ⟨0, by omega, rfl, zA (SliceR.nil _ _ _ _ _ _), HB2, hz2⟩
 case round =>
  obtain ⟨k, hk, rfl, HO, HBk, hzk⟩ := hrel
  by_cases hlt : k < 17
  ·obtain ⟨c, hc, _⟩ := jO D k qC
   obtain ⟨g, caps, hix⟩ := HIX.out k c hc;have HT : Hid (D.take (k + 1) = D.take k ++ [c]) := zA (xQ hc);obtain ⟨a0, c0, hv0⟩ := HO.out.slice;have hv0' : (D.take k).length = k := by rw [List.length_take]; omega
   rw [hv0'] at hv0;subst hv0;have HLT := zA hlt;have i1 : (k : Int) < 17 := by omega
   have HL : Hid ((D.take k).length + [c].length ≤ 100000000) := zA (by rw [hv0']; simp; omega);clear hc hv0';go_wp2_with (at_builtin; go_must (refine uO _ rfl _ _ 31 31 rfl zFS zLm w.heap.size _ _ (xs := D.take k) (ys := [c]) (news := [.string ⟨c.name.toArray⟩, .string ⟨c.input.toArray⟩, .int .i64 c.data]) rfl rfl (SliceR.below (jV _) HO.out (((Below.refl _ _).alloc (Nat.le_refl _) _).alloc qE _)) jB (zAH zFS _ _ rfl (zKa c) 1 qE) (NewsR.one rfl rfl) HL.out ?_; intro v' w5 hR hB5 _ _; rw [← HT.out] at hR; have HR5 := zA hR; have HB5 := zA hB5; clear hR hB5));go_roundw
   case rel => exact ⟨k + 1, HLT.out, by go_num, HR5, zA (((HBk.out.alloc hzk _).alloc jB _).trans HB5.out), by have := HB5.out.size; simp at this; omega⟩
   case measure => have := HLT.out; simp [intOf]; omega
  ·obtain rfl : k = 17 := by omega
   have HO' := HO.out;rw [List.take_of_length_le (show D.length ≤ 17 by omega)] at HO';have HO := zA HO';clear HO';go_wp2_with fail;go_ret;exact ⟨_, rfl, HO.out, HBk.out⟩
end Go.Proofs.YtjgeadoncanheaaGreatDoor
namespace Go.Proofs.Qw
open Go.RowKit Go.Proofs.YtjgeadoncanheaaGreatDoor
open _root_.List renaming getElem?_eq_some_iff → zK
theorem zBi {t : TypeId} {own : Bool} {w : World} {S : Nat → Prop} {v : Value} {l : List Cmd} (h : SliceR t 3 (rdOf vV) own w S v l) :
  ∃ a c, v = .slice a l.length c ∧ l.length ≤ c ∧ ∀ i x, l[i]? = some x → ∃ b o, a = some ⟨b, o, none⟩ ∧ b < w.heap.size ∧ w.cell? ⟨b, o + i * 3, none⟩ = some (.string ⟨x.name.toArray⟩) ∧ w.cell? ⟨b, o + i * 3 + 1, none⟩ = some (.string ⟨x.input.toArray⟩) ∧ w.cell? ⟨b, o + i * 3 + 2, none⟩ = some (.int .i64 x.data) := by
 obtain ⟨a, c, rfl, hc, _, hx⟩ := h.shape;refine ⟨a, c, rfl, hc, fun i x hi => ?_⟩;obtain ⟨b, o, vs, rfl, hb, _, hl, hR, hcell⟩ := hx i x hi;have e : vs = vV x := hR;subst e;exact ⟨b, o, rfl, hb, hcell 0 _ rfl, hcell 1 _ rfl, hcell 2 _ rfl⟩
theorem zJF {k : Nat} {c : Cmd} (h : cmds[k]? = some c) : c.name.length ≤ 30 := by
 have hk : k < 17 := (zK.1 h).1;have H : ∀ k : Fin 17, (cmds[k.val]'k.isLt).name.length ≤ 30 := by decide +kernel
 obtain ⟨_, h2⟩ := zK.1 h;rw [← h2];exact H ⟨k, hk⟩
end Go.Proofs.Qw
namespace Go.Proofs.YtjgeadoncanheaaGreatDoor
open Go.RowKit
open Go.Proofs.Qw
structure QWk (P : Program) (ops : Array Oper) (C : World → Prop) (Q : Act → Prop) (rest : List Oper) (a : Act) : Prop where
 out : wpQuiet P ops C Q rest a
theorem QWk.want {P : Program} {ops : Array Oper} {C : World → Prop} {Q : Act → Prop} {a : Act} {o : Oper} {rest : List Oper} (hw : Region.wanted o (yielded ops a.tmps) = true) (h : ∀ K : Act → Prop, (∀ a, QWk P ops C Q rest a → K a) → o.quiet P a C K) : QWk P ops C Q (o :: rest) a :=
 ⟨BigFrame.wpQuiet_want hw fun K hK => h K fun a ha => hK a ha.out⟩
theorem QWk.skip {P : Program} {ops : Array Oper} {C : World → Prop} {Q : Act → Prop} {a : Act} {o : Oper} {rest : List Oper} (hw : Region.wanted o (yielded ops a.tmps) = false) (h : QWk P ops C Q rest (a.put o.dst undef)) : QWk P ops C Q (o :: rest) a :=
 ⟨BigFrame.wpQuiet_skip hw h.out⟩
end Go.Proofs.YtjgeadoncanheaaGreatDoor
namespace Go.Proofs.Qw
open Go.RowKit Go.Proofs.YtjgeadoncanheaaGreatDoor
def rowT (f : Lin → Option Lin) (s : St) (D : Doc) (i : Nat) : Doc := match s.lines[i]? with | some l => (match f l with | some l' => D.set i l' | none => D) | none => D
def yY (f : Lin → Option Lin) (s : St) (is : List Nat) : Doc := is.foldl (rowT f s) s.lines
def kA (s : St) (i : Nat) : Lin := s.lines.getD i default
theorem zEI (f : Lin → Option Lin) (s : St) (is : List Nat) (i : Nat) : yY f s (is ++ [i]) = rowT f s (yY f s is) i := by simp [yY]
theorem zJW (f : Lin → Option Lin) (s : St) (D : Doc) (i : Nat) : (rowT f s D i).length = D.length := by
 unfold rowT
 split
 ·split
  ·simp
  ·rfl
 ·rfl
theorem zJu (f : Lin → Option Lin) (s : St) (is : List Nat) : (yY f s is).length = s.lines.length := by
 have H : ∀ (is : List Nat) (D : Doc), (is.foldl (rowT f s) D).length = D.length := fun is => by
  induction is with
  | nil => intro D; rfl
  | cons i is ih => intro D; rw [List.foldl_cons, ih, zJW]
 exact H is s.lines
theorem zBe (i n : Nat) : List.range' i (n + 1) = List.range' i n ++ [i + n] := by rw [List.range'_concat]; simp
theorem zFd {s : St} {i j : Nat} (h1 : (qU s).1.line = (i : Int)) (h2 : (qU s).2.line = (j : Int)) (hj : j < s.lines.length) (f : Lin → Option Lin) : ∀ n, i + n ≤ j + 1 → yY f s (List.range' i n) = yN f s (i + n)
 | 0, _ => (zIg h1 h2 f).symm
 | n + 1, h => by
  have hl : s.lines[i + n]? = some s.lines[i + n] := List.getElem?_eq_getElem qC;have hs : selI s (i + n) = true := by rw [uG h1 h2, decide_eq_true qC, decide_eq_true qC]; rfl
  rw [zBe, zEI, zFd h1 h2 hj f n qC, show i + (n + 1) = (i + n) + 1 from rfl, zIY hl, if_pos hs];unfold rowT;rw [hl];simp only;cases hf : f s.lines[i + n] with
  | some l' => rfl
  | none =>
   simp only [Option.getD_none]
   have ht : (yN f s (i + n))[i + n]? = some s.lines[i + n] := by
    rw [zBm hl, if_neg qE]
   apply List.ext_getElem?
   intro k
   by_cases hk : k = i + n
   ·subst hk
    rw [ht, List.getElem?_set_self (by rw [zBj]; omega)]
   ·rw [List.getElem?_set_ne qC]
theorem zIE {s : St} {i j : Nat} (h1 : (qU s).1.line = (i : Int)) (h2 : (qU s).2.line = (j : Int)) (hij : i ≤ j) (hj : j < s.lines.length) (f : Lin → Option Lin) : yY f s (List.range' i (j + 1 - i)) = zBs f s := by
 rw [zFd h1 h2 hj f (j + 1 - i) qC, show i + (j + 1 - i) = j + 1 by omega, zJR h1 h2 hj]
theorem zFz {s : St} {i j : Nat} (h1 : (qU s).1.line = (i : Int)) (h2 : (qU s).2.line = (j : Int)) (hj : j < s.lines.length) (p : Lin → Bool) : ∀ n, i + n ≤ j + 1 → (List.range' i n).any (fun k => p (kA s k)) = xW p s (i + n)
 | 0, _ => (zJL h1 h2 p).symm
 | n + 1, h => by
  have hl : s.lines[i + n]? = some s.lines[i + n] := List.getElem?_eq_getElem qC;have hs : selI s (i + n) = true := by rw [uG h1 h2, decide_eq_true qC, decide_eq_true qC]; rfl
  rw [zBe, List.any_append, zFz h1 h2 hj p n qC, show i + (n + 1) = (i + n) + 1 from rfl, zKu p hl, hs];simp [kA, List.getD_eq_getElem?_getD, hl]
theorem zFB {s : St} {i j : Nat} (h1 : (qU s).1.line = (i : Int)) (h2 : (qU s).2.line = (j : Int)) (hj : j < s.lines.length) (p : Lin → Bool) : ∀ n, i + n ≤ j + 1 → (List.range' i n).all (fun k => p (kA s k)) = yK p s (i + n)
 | 0, _ => (zJN h1 h2 p).symm
 | n + 1, h => by
  have hl : s.lines[i + n]? = some s.lines[i + n] := List.getElem?_eq_getElem qC;have hs : selI s (i + n) = true := by rw [uG h1 h2, decide_eq_true qC, decide_eq_true qC]; rfl
  rw [zBe, List.all_append, zFB h1 h2 hj p n qC, show i + (n + 1) = (i + n) + 1 from rfl, zKw p hl, hs];simp [kA, List.getD_eq_getElem?_getD, hl]
theorem zFk {s : St} {i j : Nat} (h1 : (qU s).1.line = (i : Int)) (h2 : (qU s).2.line = (j : Int)) (hij : i ≤ j) (hj : j < s.lines.length) (p : Lin → Bool) : (List.range' i (j + 1 - i)).any (fun k => p (kA s k)) = xW p s s.lines.length := by
 rw [zFz h1 h2 hj p (j + 1 - i) qC, show i + (j + 1 - i) = j + 1 by omega, zKQ h1 h2 hj]
theorem zFl {s : St} {i j : Nat} (h1 : (qU s).1.line = (i : Int)) (h2 : (qU s).2.line = (j : Int)) (hij : i ≤ j) (hj : j < s.lines.length) (p : Lin → Bool) : (List.range' i (j + 1 - i)).all (fun k => p (kA s k)) = yK p s s.lines.length := by
 rw [zFB h1 h2 hj p (j + 1 - i) qC, show i + (j + 1 - i) = j + 1 by omega, zKR h1 h2 hj]
def uJ (x : Option Int) (l : Lin) : Option Int := match x with | some k => if l.lists ≠ [] ∨ (0 ≤ k ∧ l.kind ≠ k) then none else some l.kind | none => none
def vE (ls : List Lin) : Option Int := ls.foldl uJ (some (-1))
theorem zIF (ls : List Lin) (l : Lin) : vE (ls ++ [l]) = uJ (vE ls) l := by simp [vE]
theorem zBM (ls : List Lin) : ls.foldl uJ none = none := by
 induction ls with
 | nil => rfl
 | cons l ls ih => exact ih
theorem zHj {a b : List Lin} (h : a <+: b) (ha : vE a = none) : vE b = none := by
 obtain ⟨c, rfl⟩ := h;unfold vE at ha ⊢;rw [List.foldl_append, ha, zBM]
theorem zFe : ∀ (ls : List Lin) (k : Int), 0 ≤ k → (∀ l ∈ ls, 0 ≤ l.kind) → ls.foldl uJ (some k) = if ls.all (fun l => decide (l.lists = []) && decide (l.kind = k)) = true then some k else none
 | [], k, _, _ => rfl
 | l :: ls, k, hk, hl => by
  rw [List.foldl_cons, List.all_cons]
  by_cases h1 : l.lists = []
  ·by_cases h2 : l.kind = k
   ·have e : uJ (some k) l = some k := by
     show (if l.lists ≠ [] ∨ (0 ≤ k ∧ l.kind ≠ k) then none else some l.kind) = some k
     rw [if_neg (fun h => h.elim (fun h => h h1) (fun h => h.2 h2)), h2]
    rw [e, zFe ls k hk (fun x hx => hl x (List.mem_cons_of_mem _ hx))];simp [h1, h2]
   ·have e : uJ (some k) l = none := by
     show (if l.lists ≠ [] ∨ (0 ≤ k ∧ l.kind ≠ k) then none else some l.kind) = none
     rw [if_pos (.inr ⟨hk, h2⟩)]
    rw [e, zBM, if_neg (by simp [h2])]
  ·have e : uJ (some k) l = none := by
    show (if l.lists ≠ [] ∨ (0 ≤ k ∧ l.kind ≠ k) then none else some l.kind) = none
    rw [if_pos (.inl h1)]
   rw [e, zBM, if_neg (by simp [h1])]
theorem zJv (l : Lin) (ls : List Lin) (h : ∀ x ∈ l :: ls, 0 ≤ x.kind) : vE (l :: ls) = if (l :: ls).all (fun x => decide (x.lists = []) && decide (x.kind = l.kind)) = true then some l.kind else none := by
 unfold vE;rw [List.foldl_cons, List.all_cons]
 by_cases h1 : l.lists = []
 ·have e : uJ (some (-1)) l = some l.kind := by
   show (if l.lists ≠ [] ∨ (0 ≤ (-1 : Int) ∧ l.kind ≠ -1) then none else some l.kind) = some l.kind
   rw [if_neg (fun h => h.elim (fun h => h h1) (fun h => absurd h.1 qV))]
  rw [e, zFe ls l.kind (h l (List.mem_cons_self ..)) (fun x hx => h x (List.mem_cons_of_mem _ hx))];simp [h1]
 ·have e : uJ (some (-1)) l = none := by
   show (if l.lists ≠ [] ∨ (0 ≤ (-1 : Int) ∧ l.kind ≠ -1) then none else some l.kind) = none
   rw [if_pos (.inl h1)]
  rw [e, zBM, if_neg (by simp [h1])]
theorem zJr {s : St} (hm : mayS s = true) {i j : Nat} (h1 : (qU s).1.line = (i : Int)) (h2 : (qU s).2.line = (j : Int)) (hij : i ≤ j) (hj : j < s.lines.length) : kQ s = vE ((List.range' i (j + 1 - i)).map (kA s)) := by
 have hk : ∀ k, k < s.lines.length → 0 ≤ (kA s k).kind := fun k hk => by
  have hl : s.lines[k]? = some s.lines[k] := List.getElem?_eq_getElem hk;have := (zED ((zAl.1 (uW hm).1).2.2.2 _ (vJ hl))).2.2.2.1;unfold kA;rw [List.getD_eq_getElem?_getD, hl];exact this
 have hli : xN s.lines (qU s).1 = kA s i := by
  unfold xN kA;rw [h1]
  rfl
 unfold kQ;rw [if_pos hm, hli, ← zFl h1 h2 hij hj (fun l => decide (l.lists = []) && decide (l.kind = (kA s i).kind))];obtain ⟨n, hn⟩ : ∃ n, j + 1 - i = n + 1 := ⟨j - i, by omega⟩
 rw [hn, show List.range' i (n + 1) = i :: List.range' (i + 1) n from rfl, List.map_cons, zJv _ _ (fun x hx => by
  rw [← List.map_cons, ← show List.range' i (n + 1) = i :: List.range' (i + 1) n from rfl] at hx;obtain ⟨k, hk1, rfl⟩ := List.mem_map.1 hx;have := List.mem_range'_1.1 hk1;exact hk k qC)]
 congr 1
 rw [← List.map_cons, List.all_map]
 rfl
end Go.Proofs.Qw
namespace Go.Proofs.YtjgeadoncanheaaGreatDoor
open Go.RowKit
open Go.Proofs.Qw
attribute [local go_sem] Oper.semAt_some
open _root_.Go.Lib renaming hid → zA
open _root_.And renaming intro → zB
open _root_.Nat renaming le_refl → zC
open _root_.Go.RowKit.Below renaming refl → zE
open _root_.Go renaming bodyPost_ret → zM
open _root_.Int renaming natCast_nonneg → zR
open _root_.List renaming length_append → zS
open _root_.Go.Proofs.Tryz renaming prog → zV
open _root_.Go.Proofs.Qw renaming jV → qB
open _root_.Go.Proofs.Qw.SliceR renaming stable → qG, below → qH
open _root_.Go.Proofs.Qw.Keeps renaming refl → qM, alloc → qN, drew → qO, set → qP
open _root_.Go.Proofs.YtjgeadoncanheaaGreatDoor renaming jL → qR
structure SelX (w0 : World) (S : Nat → Prop) (s : St) where
 i : Nat
 l : Lin
 la : Option Addr
 lc : Nat
 ca : Option Addr
 cc : Nat
 row : s.lines[i]? = some l
 hl : jI false w0 S (.slice la l.lists.length lc) l.lists
 hc : jC false w0 S (.slice ca l.cells.length cc) l.cells
def zAc {w0 : World} {S : Nat → Prop} {s : St} (x : SelX w0 S s) : Array Value := #[.int .i64 x.i, linV x.l (.slice x.la x.l.lists.length x.lc) (.slice x.ca x.l.cells.length x.cc)]
theorem zCt (va : Option Addr) (vn vc : Nat) (s : St) (w : World) :
  Calls zV 46 #[stV (.slice va vn vc) s] w fun e w' => e = .returned (.func (.func 87) #[] #[.pointer (some ⟨w.heap.size, 0, none⟩)]) ∧
   w' = w.alloc (.cells #[.slice va vn vc, .int .i64 s.anc.line, .int .i64 s.anc.col, .int .i64 s.foc.line, .int .i64 s.foc.col, .int .i64 s.on, .int .i64 s.off] 26) := by
 go_enter Tryz.func46, Tryz.ntmps46;go_wp2_with fail;go_ret;exact ⟨rfl, rfl⟩
set_option maxRecDepth 200000 in
theorem zDi (n l Bs base : Nat) (v : Value) (s : St) (i j : Nat) (S : Nat → Prop) (w0 W : World) (J Jx : List (SelX w0 S s) → World → Prop) (hv : jE w0 S v s.lines) (hb0 : Below w0.heap.size w0 W)
  (hbase : base ≤ Bs) (hbw : base ≤ W.heap.size) (hA : W.heap[Bs]? = some (.cells #[v, .int .i64 s.anc.line, .int .i64 s.anc.col, .int .i64 s.foc.line, .int .i64 s.foc.col, .int .i64 s.on, .int .i64 s.off] 26))
  (hi : (qU s).1.line = (i : Int)) (hj : (qU s).2.line = (j : Int)) (hij : i ≤ j) (hjl : j < s.lines.length) (hlen : s.lines.length ≤ 100000) (hJ : AbidesFrom W.heap.size J)
  (hY : ∀ (pre : List (SelX w0 S s)) (x : SelX w0 S s) W, J pre W → pre.length < 200000 → YieldAt Fence.wide (n - 1) zV l (zAc x) W fun e W' =>
   (e = .returned (.bool true) ∧ J (pre ++ [x]) W' ∧ Kp w0.heap.size base W W') ∨ (e = .returned (.bool false) ∧ Jx (pre ++ [x]) W'))
  (h0 : J [] W) :
  CallsIn Fence.wide n zV 87 #[.func (.yield l) #[] #[], .pointer (some ⟨Bs, 0, none⟩)] W fun e W' => (∃ v, e = .returned v) ∧
   ((∃ ys : List (SelX w0 S s), ys.map (·.i) = List.range' i (j + 1 - i) ∧ J ys W') ∨ (∃ pre : List (SelX w0 S s), (pre.map (·.i) = List.range' i pre.length ∧ pre.length ≤ j + 1 - i) ∧ Jx pre W')) := by
 refine callsIn_of_wp Tryz.func87 rfl trivial ?_ rfl;simp only [Tryz.ntmps87, List.size_toArray, List.length_cons, List.length_nil, Nat.reduceAdd, Nat.reduceSub, Array.replicate_succ, Array.replicate_zero, List.push_toArray, List.append_toArray, List.nil_append, List.cons_append];have hwf : ∀ f, Fence.wide.fn f := fun _ => trivial;have hwd : Fence.wide.depth = none := rfl;obtain ⟨va, vc, rfl, hvc, hvm, hx⟩ := kP hv;have HX := zA hx;have HY := zA hY;have HJA := zA hJ;have HBS := zA hA;have HB0 := zA hb0
 have HSp : Hid (∀ W, Calls zV 49 #[stV (.slice va s.lines.length vc) s] W fun e w' => e = .returned (.tuple #[.agg #[.int .i64 i, .int .i64 (qU s).1.col], .agg #[.int .i64 j, .int .i64 (qU s).2.col]]) ∧ Below W.heap.size W w') := zA fun W => by
  have := uR (.slice va s.lines.length vc) s W;rw [hi, hj] at this;exact this
 obtain ⟨ci, hci⟩ : ∃ c, (qU s).1.col = c := ⟨_, rfl⟩;obtain ⟨cj, hcj⟩ : ∃ c, (qU s).2.col = c := ⟨_, rfl⟩;rw [hci, hcj] at HSp;obtain ⟨p1, f1⟩ := blk hA;unfold maxLen at hvm;clear hx hv hY hJ hA hi hj hci hcj
 gi_wp2_with (gi_at_call 49; refine (callsIn_wide.2 (HSp.out _)).mono ?_; rintro e W2 ⟨rfl, hb2⟩; have HB2 := zA hb2; clear hb2)
 obtain ⟨W3, hW3⟩ : ∃ W3, ((W2.alloc (.cells #[.int .i64 i, .int .i64 ci] 24)).alloc (.cells #[.int .i64 j, .int .i64 cj] 24)) = W3 := ⟨_, rfl⟩;rw [hW3];have hb3 : Below W.heap.size W W3 := hW3 ▸ (HB2.out.alloc HB2.out.size _).alloc (by have := HB2.out.size; simp; omega) _;have HF3 : Hid (W3.heap[W2.heap.size]? = some (.cells #[.int .i64 i, .int .i64 ci] 24) ∧ W3.heap[W2.heap.size + 1]? = some (.cells #[.int .i64 j, .int .i64 cj] 24)) := zA (hW3 ▸ ⟨jH _ _ (jD _ _ rfl), jD _ _ qE⟩);have hz2 := HB2.out.size;have HJ3 := zA (zAv HJA.out h0 hb3);have HS3 := zA (jG hb3 HBS.out);have HB3 := zA (jF HB0.out hb3);have hz3 := hb3.size;have HZ3 := zA hz3;clear hW3 hb3 h0 hb0 p1 f1
 gi_loopw [5] (fun z wr => ∃ (k : Nat) (pre : List (SelX w0 S s)), i ≤ k ∧ k ≤ j + 1 ∧ i + pre.length = k ∧ z = .int .i64 k ∧ Hid (pre.map (·.i) = List.range' i pre.length) ∧ J pre wr ∧ Below w0.heap.size w0 wr ∧ Hid (wr.heap[Bs]? = some (.cells #[.slice va s.lines.length vc, .int .i64 s.anc.line, .int .i64 s.anc.col, .int .i64 s.foc.line, .int .i64 s.foc.col, .int .i64 s.on, .int .i64 s.off] 26) ∧ wr.heap[W2.heap.size]? = some (.cells #[.int .i64 i, .int .i64 ci] 24) ∧ wr.heap[W2.heap.size + 1]? = some (.cells #[.int .i64 j, .int .i64 cj] 24)) ∧ W.heap.size ≤ wr.heap.size)
  (fun z _ => j + 1 - (intOf z).toNat)
 case atStart => exact ⟨i, [], zC _, by omega, rfl, rfl, zA rfl, HJ3.out, HB3.out, zA ⟨HS3.out, HF3.out⟩, HZ3.out⟩
 case round =>
  obtain ⟨k, pre, hk1, hk2, hpl, rfl, HP, hJs, hb1, HBL, hz1⟩ := hrel;obtain ⟨p1, f1⟩ := blk HBL.out.1;obtain ⟨p2, f2⟩ := blk HBL.out.2.1;obtain ⟨p3, f3⟩ := blk HBL.out.2.2
  by_cases hlt : k ≤ j
  ·obtain ⟨l0, hl0, _⟩ := jO s.lines k qC
   obtain ⟨b, o, la, lc, ca, cc, rfl, hAk⟩ := HX.out k l0 hl0;obtain ⟨_, c0, c1, c2, c3, _, _⟩ := hAk.below hb1;have i0 : (0 : Int) ≤ (k : Int) := zR _;have i1 : (k : Int) < (s.lines.length : Int) := by omega
   have i2 : (k : Int) ≤ (j : Int) := by omega
   have hYY := HY.out pre ⟨k, l0, la, lc, ca, cc, hl0, hAk.listsR, hAk.cellsR⟩ wr hJs qC
   have HNX : Hid (∀ w7, J (pre ++ [⟨k, l0, la, lc, ca, cc, hl0, hAk.listsR, hAk.cellsR⟩]) w7 → Kp w0.heap.size base wr w7 → ∃ (k' : Nat) (pre : List (SelX w0 S s)), i ≤ k' ∧ k' ≤ j + 1 ∧ i + pre.length = k' ∧ k' = k + 1 ∧ Hid (pre.map (·.i) = List.range' i pre.length) ∧ J pre w7 ∧ Below w0.heap.size w0 w7 ∧ Hid (w7.heap[Bs]? = some (.cells #[.slice (some ⟨b, o, none⟩) s.lines.length vc, .int .i64 s.anc.line, .int .i64 s.anc.col, .int .i64 s.foc.line, .int .i64 s.foc.col, .int .i64 s.on, .int .i64 s.off] 26) ∧ w7.heap[W2.heap.size]? = some (.cells #[.int .i64 i, .int .i64 ci] 24) ∧ w7.heap[W2.heap.size + 1]? = some (.cells #[.int .i64 j, .int .i64 cj] 24)) ∧ W.heap.size ≤ w7.heap.size) := zA (by
    intro w7 hj7 hk7;refine ⟨k + 1, _, by omega, by omega, by simp; omega, rfl, zA ?_, hj7, hb1.trans hk7.below, zA ⟨hk7.cells _ _ hbase HBL.out.1 rfl, hk7.cells _ _ qC HBL.out.2.1 rfl, hk7.cells _ _ qC HBL.out.2.2 rfl⟩, Nat.le_trans hz1 hk7.below.size⟩;rw [List.map_append, HP.out, zS, List.length_singleton, zBe];exact congrArg (List.range' i pre.length ++ ·) (by show [k] = [i + pre.length]; rw [hpl]))
   have HPX : Hid ((pre ++ [⟨k, l0, la, lc, ca, cc, hl0, hAk.listsR, hAk.cellsR⟩] : List (SelX w0 S s)).map (·.i) = List.range' i (pre ++ [⟨k, l0, la, lc, ca, cc, hl0, hAk.listsR, hAk.cellsR⟩] : List (SelX w0 S s)).length ∧ (pre ++ [⟨k, l0, la, lc, ca, cc, hl0, hAk.listsR, hAk.cellsR⟩] : List (SelX w0 S s)).length ≤ j + 1 - i) := zA ⟨by
    rw [List.map_append, HP.out, zS, List.length_singleton, zBe];exact congrArg (List.range' i pre.length ++ ·) (by show [k] = [i + pre.length]; rw [hpl]), by rw [zS, List.length_singleton]; omega⟩
   generalize (pre ++ [⟨k, l0, la, lc, ca, cc, hl0, hAk.listsR, hAk.cellsR⟩] : List (SelX w0 S s)) = pre2 at *
   unfold zAc linV at hYY;obtain ⟨fn, tmps, assign, body, hy, hR⟩ := hYY;clear hJs
   gi_wp2_with fail
   refine hR.mono ?_;rintro e w7 (⟨rfl, hJ7, hk7⟩ | ⟨rfl, hJx7⟩)
   ·gi_wp2_with fail
    obtain ⟨k', pre', g1, g2, g3, e3, g4, g5, g6, g7, g8⟩ := HNX.out w7 hJ7 hk7;go_roundw
    case rel => exact ⟨k', pre', g1, g2, g3, by rw [e3]; go_num, g4, g5, g6, g7, g8⟩
    case measure => simp [intOf]; omega
   ·gi_wp2_with fail
    refine zM (results_none rfl _ _ _) rfl ?_;exact ⟨⟨_, rfl⟩, .inr ⟨_, HPX.out, hJx7⟩⟩
  ·have i2 : ¬ (k : Int) ≤ (j : Int) := by omega
   gi_wp2_with fail
   go_end0;refine ⟨⟨_, rfl⟩, .inl ⟨pre, ?_, hJs⟩⟩;rw [HP.out]
   congr 1
   omega
def TurnP (n B : Nat) (l : Lin) (cv : Value) (w : World) (r : Option Lin) (e : Ending) (w' : World) : Prop :=
 e = .returned (.bool r.isSome) ∧ (∃ q k a m c, w'.heap[B]? = some (.cells #[.int .i64 q, .slice a m c, .int .i64 k, cv] 47) ∧ ∀ l', r = some l' → l'.quote = q ∧ l'.kind = k ∧ l'.lists.length = m ∧ jI true w' (fun b => n ≤ b) (.slice a m c) l'.lists ∧ l'.cells = l.cells) ∧
  (∀ b, b ≠ B → b < w.heap.size → (∀ cs, w.heap[b]? ≠ some (.cells cs 3)) → w'.heap[b]? = w.heap[b]?) ∧ w.heap.size ≤ w'.heap.size ∧ ∀ m, m ≤ n → m ≤ B → Below m w w'
set_option maxRecDepth 100000 in
theorem zCG (g : Nat) (caps : Array Value) (r : Option Lin) (eg : ∀ args w, (callFunc g args).run zV w = .ok (.enter g args) w)
  (l : Lin) (la ca : Option Addr) (lc cc : Nat) (w w0 : World) (S : Nat → Prop) (hL : jI false w0 S (.slice la l.lists.length lc) l.lists) (hC : jC false w0 S (.slice ca l.cells.length cc) l.cells) (h0 : Below w0.heap.size w0 w)
  (he : EnvT w) (hs : l.lists.length ≤ 1000000 ∧ l.cells.length ≤ 1000000) (hh : ∀ c ∈ l.cells, c.href.length ≤ 1000000) (hm : mayL l = true)
  (HT : ∀ (n B : Nat) (la : Option Addr) (lc : Nat) (cv : Value) (W : World), Below w.heap.size w W → w.heap.size ≤ B → B < n → n ≤ W.heap.size → jI true W (fun b => n ≤ b) (.slice la l.lists.length lc) l.lists → W.heap[B]? = some (.cells #[.int .i64 l.quote, .slice la l.lists.length lc, .int .i64 l.kind, cv] 47) →
   Calls zV g (#[.pointer (some ⟨B, 0, none⟩)] ++ caps) W (TurnP n B l cv W r)) :
  Calls zV 169 #[linV l (.slice la l.lists.length lc) (.slice ca l.cells.length cc), .func (.func g) #[] caps] w (yT w r) := by
 obtain ⟨W1, hW1, hB, hz, hA1, hA2⟩ := uS w (.int .i64 l.quote) (.slice la l.lists.length lc) (.int .i64 l.kind) (.slice ca l.cells.length cc) (.int .i64 0) (.slice none 0 0) (.int .i64 0) (.slice none 0 0);have h01 : Below w0.heap.size w0 W1 := jF h0 hB;have HM := zA (zBK l la ca lc cc W1 w0 S hL hC (he.below hB) h01 hh);rw [hm] at HM;have HO : Hid (∀ W, Below w0.heap.size w0 W → Calls zV 212 #[linV l (.slice la l.lists.length lc) (.slice ca l.cells.length cc)] W fun e w' => ∃ a' b', e = .returned (linV l a' b') ∧ jI true w' (fun b => W.heap.size ≤ b) a' l.lists ∧ jC true w' (fun b => W.heap.size ≤ b) b' l.cells ∧ Below W.heap.size W w') := zA fun W hW => zBb l _ _ false false W w0 S hL hC hW hs;have HG := zA HT;have hs1 := hB.size;have HB0 : Hid (∀ W, Below W1.heap.size W1 W → W.heap[w.heap.size]? = some (.cells #[.int .i64 l.quote, .slice la l.lists.length lc, .int .i64 l.kind, .slice ca l.cells.length cc] 47) ∧ W.heap[w.heap.size + 1]? = some (.cells #[.int .i64 0, .slice none 0 0, .int .i64 0, .slice none 0 0] 47)) := zA fun W hW => ⟨jG hW hA1, jG hW hA2⟩;have H1 := zA hB;have H01 := zA h01;obtain ⟨p1, f1⟩ := blk hA1;obtain ⟨p2, f2⟩ := blk hA2;clear hL hC hs hB h0 HT hm he h01;unfold linV at HO ⊢;go_enter Tryz.func169, Tryz.ntmps169;go_wp2_with (first | (go_at_call 91; refine HM.out.mono ?_; rintro e w2 ⟨rfl, hb2⟩; obtain ⟨hA3, hA4⟩ := HB0.out _ hb2; obtain ⟨q0, g0⟩ := blk hA3; obtain ⟨q1, g1⟩ := blk hA4) | (go_at_call 212; refine (HO.out _ (jF H01.out hb2)).mono ?_; rintro e w3 ⟨a', b', rfl, ha', hb', hb3⟩; obtain ⟨a1, c1, rfl⟩ := ha'.slice; obtain ⟨a2, c2, rfl⟩ := hb'.slice; obtain ⟨hA5, hA6⟩ := HB0.out _ (jF hb2 hb3); obtain ⟨p3, f3⟩ := blk hA5; obtain ⟨p4, f4⟩ := blk hA6));obtain ⟨Y, hY, hYB, hYs, hYo, hYb⟩ := jX w3 w.heap.size 47 _ _ _ _ (.int .i64 l.quote) (.slice a1 l.lists.length c1) (.int .i64 l.kind) (.slice a2 l.cells.length c2) hA5;have hx2 := jF H1.out hb2;have hx3 : Below w.heap.size w w3 := jF hx2 hb3;have hn3 : w.heap.size + 2 ≤ w2.heap.size := by have := hb2.size; omega
 have hle3 := hb3.size;have hiY : jI true Y (fun b => w2.heap.size ≤ b) (.slice a1 l.lists.length c1) l.lists := qG (qB _) ha' (Keeps.only hYs hYo jB) (fun b h _ => h);have hcY : jC true Y (fun b => w2.heap.size ≤ b) (.slice a2 l.cells.length c2) l.cells := qG (qB _) hb' (Keeps.only hYs hYo jB) (fun b h _ => h);have hcl := hiY.len;rw [hY];have hA7 : Y.heap[w.heap.size + 1]? = some (.cells #[.int .i64 0, .slice none 0 0, .int .i64 0, .slice none 0 0] 47) := (hYo _ qC).trans hA6;have hYx : Below w.heap.size w Y := hYb _ (zC _) w hx3;refine (HG.out w2.heap.size w.heap.size a1 c1 (.slice a2 l.cells.length c2) Y hYx (zC _) qC qC hiY hYB).mono ?_;rintro e w4 ⟨rfl, ⟨q, k, na, m, c, h4, hl4⟩, ho4, hz4, hb4⟩;have hA8 := (ho4 (w.heap.size + 1) qC qC (fun cs e => by rw [hA7] at e; cases e)).trans hA7;have hc4 : jC true w4 (fun b => w2.heap.size ≤ b) (.slice a2 l.cells.length c2) l.cells := SliceR.tagged (jK 3 xA) qV hcY hz4 (fun b hb hz ht => ho4 b zDw hz ht) (fun b h _ => h);have hx4 : Below w.heap.size w w4 := hYx.trans (hb4 _ qC (zC _));have HCC := zA hc4;have HX4 := zA hx4;clear hc4 hx4 hiY hcY hYB hYo hYb ha' hb' ho4 hb4 HG HO HM hx2 hx3 hYx;obtain ⟨p5, f5⟩ := blk h4;obtain ⟨p6, f6⟩ := blk hA8;clear p1 f1 p2 f2 q0 g0 q1 g1 p3 f3 p4 f4 hY;cases r with
 | none =>
  go_wp2_with fail;refine zM (kY rfl _ _ (w.heap.size + 1) (.int .i64 0) (.slice none 0 0) (.int .i64 0) (.slice none 0 0) rfl (by simp [qR, qW, hA8])) rfl ?_;refine ⟨fun l' h => kN, fun _ => rfl, ?_⟩;have := HX4.out
  ((with_reducible repeat' first | exact zE _ _ | assumption | refine Below.alloc ?_ ?_ _ | refine Below.drew ?_ | refine jN ?_ | refine Below.setCell ?_ ?_ _) <;> go_size)
 | some l' =>
  obtain ⟨rfl, rfl, rfl, e5, e6⟩ := hl4 l' rfl;have HE := zA (zB e5 e6);have hml := e5.len;clear hl4 e5 e6;go_wp2_with fail;refine zM (kY rfl _ _ (w.heap.size + 1) (.int .i64 l'.quote) (.slice na l'.lists.length c) (.int .i64 l'.kind) (.slice a2 l.cells.length c2) rfl (by simp [qR, qW, hA8])) rfl ?_;refine ⟨fun l'' h => ?_, fun h => kN, ?_⟩
  ·cases h
   refine ⟨_, _, rfl, ?_, ?_⟩
   ·have hh := HE.out.1
    exact (qG (qB _) hh jM (fun b h _ => jJ))
   ·rw [HE.out.2]
    have hh := HCC.out;exact (qG (qB _) hh jM (fun b h _ => jJ))
  ·have := HX4.out
   ((with_reducible repeat' first | exact zE _ _ | assumption | refine Below.alloc ?_ ?_ _ | refine Below.drew ?_ | refine jN ?_ | refine Below.setCell ?_ ?_ _) <;> go_size)
theorem blkT {w : World} {B : Nat} {cs : Array Value} {t : TypeId} (h : w.heap[B]? = some (.cells cs t)) : (∀ X k, (w.alloc X).cell? ⟨B, k, none⟩ = cs[k]?) ∧ (∀ X k, (w.alloc X).frozen? ⟨B, k, none⟩ = false) :=
 ⟨fun X _ => jR (jH _ X h), fun X _ => xF (jH _ X h)⟩
theorem TurnP.own {n B : Nat} {l : Lin} {cv : Value} {w w' : World} {r : Option Lin} {e : Ending} {a : Option Addr} {m c : Nat} (q k : Int) (he : e = .returned (.bool r.isSome)) (hB : w'.heap[B]? = some (.cells #[.int .i64 q, .slice a m c, .int .i64 k, cv] 47))
  (hl : ∀ l', r = some l' → l'.quote = q ∧ l'.kind = k ∧ l'.lists.length = m ∧ jI true w' (fun b => n ≤ b) (.slice a m c) l'.lists ∧ l'.cells = l.cells) (ho : ∀ b, b ≠ B → w'.heap[b]? = w.heap[b]?) (hs : w'.heap.size = w.heap.size) (hb : ∀ m, m ≤ B → Below m w w') : TurnP n B l cv w r e w' :=
 ⟨he, ⟨q, k, a, m, c, hB, hl⟩, fun b hb _ _ => ho b hb, Nat.le_of_eq hs.symm, fun m _ hm => hb m hm⟩
set_option maxRecDepth 100000 in
theorem zEi (n B Bk : Nat) (l : Lin) (kind : Int) (la : Option Addr) (lc : Nat) (cv : Value) (W : World) (hBn : B < n) (hne : Bk ≠ B) (hk : W.heap[Bk]? = some (.cells #[.int .i64 kind] 3)) (h : jI true W (fun b => n ≤ b) (.slice la l.lists.length lc) l.lists) (hB : W.heap[B]? = some (.cells #[.int .i64 l.quote, .slice la l.lists.length lc, .int .i64 l.kind, cv] 47)) :
  Calls zV 230 #[.pointer (some ⟨B, 0, none⟩), .pointer (some ⟨Bk, 0, none⟩)] W (TurnP n B l cv W (xS kind l)) := by
 obtain ⟨p0, f0⟩ := blk hB;obtain ⟨p1, f1⟩ := blk hk;have v1 : ¬ B = Bk := fun e => hne e.symm;have v2 : ¬ Bk = B := hne;have hlen := h.len;have HB := zA hB;have HI := zA h;have HR := zA (show xS kind l = if l.lists ≠ [] ∨ l.kind = kind then none else some { l with kind := kind } from rfl);clear h hB hk
 by_cases e1 : l.lists = []
 ·have hl0 : (((l.lists.length : Nat) : Int) == 0) = true := by rw [e1]; rfl
  by_cases e2 : l.kind = kind
  ·have hk0 : (l.kind != kind) = false := by simp [e2]
   have HR : Hid (xS kind l = none) := zA (HR.out.trans (if_pos (.inr e2)));clear e1 e2;go_enter Tryz.func230, Tryz.ntmps230;go_wp2_with fail;go_ret;rw [HR.out];exact TurnP.own (a := la) (m := l.lists.length) (c := lc) l.quote kind rfl (by simp [qR, qW, HB.out]) (fun _ e => by cases e) (fun b hb => by simp [qR, Ne.symm hb]) qE (fun m hm => (zE _ _).setCell hm _)
  ·have hk0 : (l.kind != kind) = true := by simp [e2]
   have HR : Hid (xS kind l = some { l with kind := kind }) := zA (HR.out.trans (if_neg (fun h => h.elim (fun h => h e1) (fun h => e2 h))));clear e1 e2;go_enter Tryz.func230, Tryz.ntmps230;go_wp2_with fail;go_ret;rw [HR.out];refine TurnP.own (a := la) (m := l.lists.length) (c := lc) l.quote kind rfl (by simp [qR, qW, HB.out]) ?_ (fun b hb => by simp [qR, Ne.symm hb]) qE (fun m hm => (zE _ _).setCell hm _);intro l' hl';cases hl';exact ⟨rfl, rfl, rfl, qG (qB _) HI.out zCi (fun b h _ => h), rfl⟩
 ·have hl0 : (((l.lists.length : Nat) : Int) == 0) = false := by
   have : l.lists.length ≠ 0 := fun e2 => e1 (List.length_eq_zero_iff.1 e2);exact beq_false_of_ne qC
  have HR : Hid (xS kind l = none) := zA (HR.out.trans (if_pos (.inl e1)));clear e1;go_enter Tryz.func230, Tryz.ntmps230;go_wp2_with fail;go_ret;rw [HR.out];exact TurnP.own (a := la) (m := l.lists.length) (c := lc) l.quote kind rfl (by simp [qR, qW, HB.out]) (fun _ e => by cases e) (fun b hb => by simp [qR, Ne.symm hb]) qE (fun m hm => (zE _ _).setCell hm _)
theorem zGJ {w w' : World} {S : Nat → Prop} {v : Value} {xs : List Int} (h : jI true w S v xs) (hne : xs ≠ []) (hg : w.grownBy w' v.ownBlock) : ∀ b, b < w.heap.size → (¬ S b ∨ ∀ cs, w.heap[b]? ≠ some (.cells cs 3)) → w'.heap[b]? = w.heap[b]? := fun b hb hno => by
 obtain ⟨a, c, rfl, _, _, hx⟩ := h;rcases hx with ⟨rfl, _⟩ | ⟨b0, o0, rfl, hS, _, hf, _⟩
 ·exact absurd rfl hne
 ·obtain ⟨cs, h1, _⟩ := hf rfl
  refine hg.block b hb (fun e => ?_);have e : some b = some b0 := e;cases e;exact hno.elim (fun h => h hS) (fun h => h cs h1)
theorem zKg (w : World) (k : Int) {S : Nat → Prop} (hS : S w.heap.size) : jI true (w.alloc (.cells #[.int .i64 k] 3)) S (.slice (some ⟨w.heap.size, 0, none⟩) 1 1) [k] := by
 refine ⟨_, 1, rfl, by simp, by decide, .inr ⟨w.heap.size, 0, rfl, hS, by simp, fun _ => ⟨_, jD _ _ rfl, by simp⟩, fun i x hx => ?_⟩⟩
 match i, hx with
 | 0, hx =>
  cases hx
  exact ⟨_, rfl, rfl, fun j u hu => by
   rw [jR (jD _ _ rfl), Nat.zero_mul, Nat.zero_add]
   simpa [yX] using hu⟩
theorem zJZ (k : Int) : ∀ u ∈ [Value.int .i64 k], u.oneCell' = true := fun u hu => by simp at hu; subst hu; rfl
set_option maxRecDepth 100000 in
theorem zHP (n B : Nat) (l : Lin) (la : Option Addr) (lc : Nat) (cv : Value) (W : World) (hm : mayL l = true) (hBn : B < n) (hnW : n ≤ W.heap.size) (h : jI true W (fun b => n ≤ b) (.slice la l.lists.length lc) l.lists) (hB : W.heap[B]? = some (.cells #[.int .i64 l.quote, .slice la l.lists.length lc, .int .i64 l.kind, cv] 47)) :
  Calls zV 196 #[.pointer (some ⟨B, 0, none⟩)] W (TurnP n B l cv W (vB l)) := by
 obtain ⟨hq0, hq6, hl6, _⟩ := zAx hm;have HC := zA (zBG B l.quote l.kind l.lists la lc cv W _ (SliceR.read (fun _ _ h => h) h) hB);have hlen := h.len
 by_cases hn : l.lists = []
 ·have HR : Hid (vB l = if l.quote = 6 then none else some { l with quote := l.quote + 1 }) := zA (by unfold vB; rw [if_neg (fun e => e hn)])
  have hla : xB l.lists = -1 := by rw [hn]; rfl
  rw [hla] at HC;have HB := zA hB;have HI := zA h;have w1 : IntKind.i64.wrap (l.quote + 1) = l.quote + 1 := IntWalk.i64_in _ qC;clear h hB hn hlen hla;go_enter Tryz.func196, Tryz.ntmps196;go_wp2_with (go_at_call 197; refine HC.out.mono ?_; rintro e w2 ⟨rfl, hb2, hh2⟩; have HW2 := zA (zB hb2 hh2); have HB2 : Hid (w2.heap[B]? = _) := zA (hh2 ▸ HB.out); clear hb2 hh2; obtain ⟨p0, f0⟩ := blk HB2.out);go_ret;rw [HR.out];have hI2 : jI true w2 (fun b => n ≤ b) (.slice la l.lists.length lc) l.lists := qH (qB _) HI.out HW2.out.1;refine ⟨?_, ⟨l.quote + 1, l.kind, la, l.lists.length, lc, by simp [qR, qW, HB2.out], ?_⟩, fun b hb _ _ => by simp [qR, Ne.symm hb, HW2.out.2], by simp [HW2.out.2], fun m _ hm => (HW2.out.1.mono (by have := hnW; omega)).setCell hm _⟩
  ·by_cases e : l.quote = 6
   ·rw [if_pos e]; simp [e]
   ·rw [if_neg e]; simp; omega
  ·intro l' hl'
   split at hl'
   ·cases hl'
   ·cases hl'
    exact ⟨rfl, rfl, rfl, qG (qB _) hI2 zCi (fun b h _ => h), rfl⟩
 ·have HR : Hid (vB l = if l.lists.length = 6 then none else some { l with lists := l.lists ++ [xB l.lists] }) := zA (by unfold vB; rw [if_pos hn])
  have hlf := zBS hm hn;obtain ⟨k, hk⟩ : ∃ k, xB l.lists = k := ⟨_, rfl⟩;rw [hk] at HC HR hlf;have HB := zA hB;have HI := zA h;have HN := zA hn;have HL : Hid (l.lists.length + [k].length ≤ 100000000) := zA jB;have hk0 : ¬ k < 0 := by omega
  clear h hB hn hlen hk;go_enter Tryz.func196, Tryz.ntmps196
  go_wp2_with (first
   | (go_at_call 197; refine HC.out.mono ?_; rintro e w2 ⟨rfl, hb2, hh2⟩; have HW2 := zA (zB hb2 hh2); have HB2 : Hid (w2.heap[B]? = _) := zA (hh2 ▸ HB.out); have hz2 : W.heap.size ≤ w2.heap.size := (by rw [hh2]; exact zC _); clear hb2 hh2; obtain ⟨p0, f0⟩ := blk HB2.out)
   | (at_builtin; refine uO _ rfl _ _ 45 45 rfl zCa zBp n _ _ (xs := l.lists) (ys := [k]) (news := [.int .i64 k]) rfl rfl (qH (qB _) (qH (qB _) HI.out HW2.out.1) ((zE _ _).alloc (zC _) _)) jB (zAH zCa _ _ rfl (zJZ k) 1 rfl) (NewsR.one rfl rfl) HL.out ?_; intro v' w3 hR hB' hg _; obtain ⟨a3, c3, hv3⟩ := hR.slice; subst hv3; have HR3 := zA hR; have HB3 := zA hB'; have HG3 := zA (zGJ (qH (qB _) (qH (qB _) HI.out HW2.out.1) ((zE _ _).alloc (zC _) _)) HN.out hg); have j3 := (HG3.out B jB (.inl qC)).trans (jH _ _ HB2.out); have HJ3 := zA j3; obtain ⟨p3, f3⟩ := blk j3; clear hR hB' hg j3))
  go_ret;rw [HR.out];have hr3 := HR3.out;rw [zS, List.length_singleton] at hr3;refine ⟨?_, ⟨l.quote, l.kind, a3, l.lists.length + 1, c3, by simp [qR, qW, HJ3.out], ?_⟩, fun b hb hz hno => ?_, ?_, fun m hm1 hm2 => ?_⟩
  ·by_cases e : l.lists.length = 6
   ·rw [if_pos e]; simp [e]
   ·rw [if_neg e]; simp; omega
  ·intro l' hl'
   split at hl'
   ·cases hl'
   ·cases hl'
    exact ⟨rfl, rfl, by simp, qG (qB _) hr3 zCi (fun b h _ => h), rfl⟩
  ·rw [qR, if_neg (Ne.symm hb)]
   have e1 : (w2.alloc (.cells #[.int .i64 k] 3)).heap[b]? = W.heap[b]? := by
    rw [Array.getElem?_eq_getElem hz];exact jH _ _ (by rw [HW2.out.2]; exact Array.getElem?_eq_getElem hz)
   exact (HG3.out b jB (.inr (fun cs => by rw [e1]; exact hno cs))).trans e1
  ·have := HB3.out.size
   simp at this ⊢
   omega
  ·exact (((HW2.out.1.mono qC).alloc qC _).trans (HB3.out.mono hm1)).setCell hm2 _
set_option maxRecDepth 100000 in
theorem zEZ (n B Bk : Nat) (l : Lin) (kind : Int) (la : Option Addr) (lc : Nat) (cv : Value) (W : World) (hm : mayL l = true) (hBn : B < n) (hne : Bk ≠ B) (hBk : Bk < n) (hnW : n ≤ W.heap.size) (hk : W.heap[Bk]? = some (.cells #[.int .i64 kind] 3)) (h : jI true W (fun b => n ≤ b) (.slice la l.lists.length lc) l.lists) (hB : W.heap[B]? = some (.cells #[.int .i64 l.quote, .slice la l.lists.length lc, .int .i64 l.kind, cv] 47)) :
  Calls zV 231 #[.pointer (some ⟨B, 0, none⟩), .pointer (some ⟨Bk, 0, none⟩)] W (TurnP n B l cv W (xO kind l)) := by
 obtain ⟨hq0, hq6, hl6, _⟩ := zAx hm;have HC := zA (zBG B l.quote l.kind l.lists la lc cv W _ (SliceR.read (fun _ _ h => h) h) hB);have v1 : ¬ B = Bk := fun e => hne e.symm;have v2 : ¬ Bk = B := hne
 by_cases hn : l.lists = []
 ·have HR : Hid (xO kind l = some { l with lists := [kind], kind := 0 }) := zA (by unfold xO; rw [if_pos hn])
  have hla : xB l.lists = -1 := by rw [hn]; rfl
  rw [hla] at HC;have HB := zA hB;have HK := zA hk;clear h hB hk hn hla;go_enter Tryz.func231, Tryz.ntmps231;go_wp2_with (go_at_call 197; refine HC.out.mono ?_; rintro e w2 ⟨rfl, hb2, hh2⟩; have HW2 := zA (zB hb2 hh2); have HB2 : Hid (w2.heap[B]? = _) := zA (hh2 ▸ HB.out); have hz2 : W.heap.size ≤ w2.heap.size := (by rw [hh2]; exact zC _); obtain ⟨p1, f1⟩ := blk (show w2.heap[Bk]? = _ from hh2 ▸ HK.out); have v3 : ¬ w2.heap.size = B := qC; have v4 : ¬ B = w2.heap.size := qC; clear hb2 hh2; obtain ⟨p0, f0⟩ := blk HB2.out; obtain ⟨t0, u0⟩ := blkT HB2.out);go_ret;rw [HR.out];have hs2 : w2.heap.size = W.heap.size := by rw [HW2.out.2]
  refine ⟨rfl, ⟨l.quote, 0, some ⟨w2.heap.size, 0, none⟩, 1, 1, by simp [qR, qW, jH _ (.cells #[.int .i64 kind] 3) HB2.out], ?_⟩, fun b hb hz hno => ?_, by simp; omega, fun m hm1 hm2 => ?_⟩
  ·intro l' hl'
   cases hl';exact ⟨rfl, rfl, rfl, qG (qB _) (zKg w2 kind (S := fun b => n ≤ b) (by show n ≤ w2.heap.size; omega)) zCi (fun b h _ => h), rfl⟩
  ·rw [qR, if_neg (Ne.symm hb), qR, if_neg (Ne.symm hb), Array.getElem?_eq_getElem hz]
   exact jH _ _ (by rw [HW2.out.2]; exact Array.getElem?_eq_getElem hz)
  ·exact (((HW2.out.1.mono qC).alloc qC _).setCell hm2 _).setCell hm2 _
 ·obtain ⟨i, hil⟩ : ∃ i, l.lists.length = i + 1 := ⟨l.lists.length - 1, by have := List.length_pos_iff.2 hn; omega⟩
  obtain ⟨x, hx0, _⟩ := jO l.lists i qC
  have hlx : xB l.lists = x := by
   unfold xB;rw [List.getLastD_eq_getLast?, List.getLast?_eq_getElem?, hil, Nat.add_sub_cancel, hx0]
   rfl
  have hlf := zBS hm hn
  have hset : l.lists.dropLast ++ [kind] = l.lists.set i kind := by
   apply List.ext_getElem?
   intro j
   by_cases hj : j = i
   ·subst hj
    rw [List.getElem?_set_self qC, List.getElem?_append_right jB];simp [hil]
   ·rw [List.getElem?_set_ne (Ne.symm hj)]
    by_cases hj2 : j < i
    ·rw [List.getElem?_append_left jB, List.getElem?_dropLast, if_pos qC]
    ·rw [List.getElem?_eq_none jB, List.getElem?_eq_none qC]
  have HR : Hid (xO kind l = if x = kind then none else some { l with lists := l.lists.set i kind }) := zA (by unfold xO; rw [if_neg hn, hlx, hset]);rw [hlx] at HC hlf;obtain ⟨b0, o0, cs0, hla, hS0, hc0, hz0⟩ := SliceR.cellAt h (i := i) qC;subst hla;have hb0 : n ≤ b0 := hS0;obtain ⟨a9, c9, he9, _, _, hx9⟩ := zAz (SliceR.read (fun _ _ h => h) h);cases he9;obtain ⟨b9, o9, he9, hz9, hc9⟩ := hx9 i x hx0;cases he9;have HC9 := zA (zB hz9 hc9);clear hx9 hz9 hc9;have HI := zA h;have HB := zA hB;have HK := zA hk;have HX := zA hx0;have HIL := zA hil;have HC0 := zA hc0;have hlen := h.len;unfold maxLen at hlen;have q0 : ¬ x < 0 := by omega
  have n0 : (0 : Int) ≤ (i : Int) := zR _;have n1 : (i : Int) < ((i + 1 : Nat) : Int) := by omega
  have e1 : IntKind.i64.wrap (((i + 1 : Nat) : Int) - 1) = (i : Int) := by rw [show (((i + 1 : Nat) : Int) - 1) = (i : Int) by omega]; exact IntWalk.i64_in _ qC
  have e2 : wrap64 (i : Int) = (i : Int) := IntWalk.wrap64_in _ qC;have v3 : ¬ b0 = B := by omega
  have v4 : ¬ b0 = Bk := by omega
  have v5 : ¬ B = b0 := by omega
  have v6 : ¬ Bk = b0 := by omega
  rw [hil] at HB;clear h hB hk hx0 hlx hset hn hc0 hz0 hS0 hil hlen;go_enter Tryz.func231, Tryz.ntmps231;go_wp2_with (go_at_call 197; refine HC.out.mono ?_; rintro e w2 ⟨rfl, hb2, hh2⟩; have HW2 := zA (zB hb2 hh2); have HB2 : Hid (w2.heap[B]? = _) := zA (hh2 ▸ HB.out); obtain ⟨p1, f1⟩ := blk (show w2.heap[Bk]? = _ from hh2 ▸ HK.out); have f2 := (blk (show w2.heap[b0]? = _ from hh2 ▸ HC0.out)).2; have c9 := (hb2.cell (p := ⟨b0, o0 + i, none⟩) HC9.out.1).trans HC9.out.2; clear hb2 hh2; obtain ⟨p0, f0⟩ := blk HB2.out);go_region;go_wp2_with fail;go_ret;rw [HR.out];have hI2 : jI true w2 (fun b => n ≤ b) (.slice (some ⟨b0, o0, none⟩) l.lists.length lc) l.lists := qH (qB _) HI.out HW2.out.1;have hw := SliceR.set1 zBp.tag hI2 HX.out (j := 0) (x' := kind) qV (.int .i64 kind) (by rintro vs _ rfl; rfl);rw [Nat.mul_one, Nat.add_zero] at hw;have hlen2 : (l.lists.set i kind).length = l.lists.length := List.length_set;refine ⟨?_, ⟨l.quote, l.kind, some ⟨b0, o0, none⟩, l.lists.length, lc, ?_, ?_⟩, fun b hb hz hno => ?_, by simp [HW2.out.2], fun m hm1 hm2 => ?_⟩
  ·by_cases e : x = kind
   ·rw [if_pos e]; simp [e]
   ·rw [if_neg e]; simp [e]
  ·show (w2.setCell ⟨b0, o0 + i, none⟩ (.int .i64 kind)).heap[B]? = _
   rw [qR, if_neg v3, HIL.out];exact HB2.out
  ·intro l' hl'
   split at hl'
   ·cases hl'
   ·cases hl'
    exact ⟨rfl, rfl, hlen2, qH (qB _) hw (zE _ _).drew, rfl⟩
  ·show (w2.setCell ⟨b0, o0 + i, none⟩ (.int .i64 kind)).heap[b]? = _
   rw [qR, if_neg (fun e : b0 = b => hno cs0 (e ▸ HC0.out)), HW2.out.2]
  ·exact ((HW2.out.1.mono qC).setCell (by show m ≤ b0; omega) _).drew
end Go.Proofs.YtjgeadoncanheaaGreatDoor
