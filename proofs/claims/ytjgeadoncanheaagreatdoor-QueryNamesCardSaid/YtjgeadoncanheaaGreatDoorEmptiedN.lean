/- Parts of the proof. -/
import Derived.Test.YtjgeadoncanheaaGreatDoorBlkLinesN
import Derived.Test.YtjgeadoncanheaaGreatDoorLaidN
import Derived.Test.YtjgeadoncanheaaGreatDoorStyTellsN
import Derived.Test.YtjgeadoncanheaaGreatDoorQryArgsN
import Derived.Test.YtjgeadoncanheaaGreatDoorDocEachN
set_option linter.unusedVariables false
set_option linter.unusedSimpArgs false
set_option maxHeartbeats 8000000
namespace Go.Proofs.YtjgeadoncanheaaGreatDoor
open Go.RowKit
open Go.Proofs.Qw
attribute [local go_sem] Oper.semAt_some
open _root_.Go.Lib renaming hid → zA
open _root_.Go.RowKit.Below renaming refl → zE, setCell → zF, alloc → zG, drew → zH
open _root_.Go renaming bodyPost_ret → zM
open _root_.Go.Proofs.YtjgeadoncanheaaGreatDoor renaming jG → zX, jN → qQ
open _root_.Go.Proofs.Qw renaming jV → qB
open _root_.Go.Proofs.Qw.SliceR renaming stable → qG
open _root_.Go.Proofs.Qw.Keeps renaming refl → qM, alloc → qN, drew → qO, set → qP
theorem zFa (w : World) (x1 x2 x3 x4 y1 y2 y3 y4 k : Value) : ∃ W1, ((w.alloc (.cells #[x1, x2, x3, x4] 47)).alloc (.cells #[k] 3)).alloc (.cells #[y1, y2, y3, y4] 47) = W1 ∧ Below w.heap.size w W1 ∧ w.heap.size + 3 = W1.heap.size ∧
  W1.heap[w.heap.size]? = some (.cells #[x1, x2, x3, x4] 47) ∧ W1.heap[w.heap.size + 1]? = some (.cells #[k] 3) ∧ W1.heap[w.heap.size + 2]? = some (.cells #[y1, y2, y3, y4] 47) :=
 ⟨_, rfl, (((zE _ _).alloc (Nat.le_refl _) _).alloc qE _).alloc jB _, by simp, jH _ _ (jH _ _ (jD _ _ rfl)), jH _ _ (jD _ _ qE), jD _ _ qE⟩
set_option maxRecDepth 100000 in
theorem zGo (kind : Int) (l : Lin) (la ca : Option Addr) (lc cc : Nat) (w w0 : World) (S : Nat → Prop) (hk : 0 ≤ kind ∧ kind ≤ 3) (hL : jI false w0 S (.slice la l.lists.length lc) l.lists) (hC : jC false w0 S (.slice ca l.cells.length cc) l.cells) (h0 : Below w0.heap.size w0 w)
  (he : EnvT w) (hs : l.lists.length ≤ 1000000 ∧ l.cells.length ≤ 1000000) (hh : ∀ c ∈ l.cells, c.href.length ≤ 1000000) (hm : mayL l = true) :
  Calls Tryz.prog 195 #[linV l (.slice la l.lists.length lc) (.slice ca l.cells.length cc), .int .i64 kind] w (yT w (xS kind l)) := by
 obtain ⟨W1, hW1, hB, hz, hA1, hA0, hA2⟩ := zFa w (.int .i64 l.quote) (.slice la l.lists.length lc) (.int .i64 l.kind) (.slice ca l.cells.length cc) (.int .i64 0) (.slice none 0 0) (.int .i64 0) (.slice none 0 0) (.int .i64 kind)
 have HT := zA (zCG 230 #[.pointer (some ⟨w.heap.size + 1, 0, none⟩)] (xS kind l) (enters_of Tryz.func230 zT rfl) l la ca lc cc W1 w0 S hL hC (jF h0 hB) (he.below hB) hs hh hm (fun n B la lc cv W hW hB1 hBn hnW hi hBb => by
  have hk1 := zX hW hA0;have hne : w.heap.size + 1 ≠ B := by omega
  first
   | exact zEi n B (w.heap.size + 1) l kind la lc cv W hBn hne hk1 hi hBb
   | exact zEZ n B (w.heap.size + 1) l kind la lc cv W hm hBn hne qC hnW hk1 hi hBb))
 have hs1 := hB.size;have HB0 : Hid (∀ W, Below W1.heap.size W1 W → W.heap[w.heap.size]? = some (.cells #[.int .i64 l.quote, .slice la l.lists.length lc, .int .i64 l.kind, .slice ca l.cells.length cc] 47) ∧ W.heap[w.heap.size + 1]? = some (.cells #[.int .i64 kind] 3) ∧ W.heap[w.heap.size + 2]? = some (.cells #[.int .i64 0, .slice none 0 0, .int .i64 0, .slice none 0 0] 47)) := zA fun W hW => ⟨zX hW hA1, zX hW hA0, zX hW hA2⟩;have H1 := zA hB;obtain ⟨p0, f0⟩ := blk hA0;obtain ⟨p1, f1⟩ := blk hA1;obtain ⟨p2, f2⟩ := blk hA2;obtain ⟨r, hr⟩ : ∃ r, xS kind l = r := ⟨_, rfl⟩;rw [hr] at HT ⊢;clear hL hC hs hB h0 hr hm he;unfold linV at HT ⊢;obtain ⟨k0, k3⟩ := hk;cases r with
 | none =>
  go_enter Tryz.func195, Tryz.ntmps195;go_wp2_with (go_at_call 169; refine HT.out.mono ?_; rintro e w2 ⟨_, he2, hb2⟩; obtain rfl := he2 rfl; obtain ⟨hA3, hA5, hA4⟩ := HB0.out _ hb2; obtain ⟨q0, g0⟩ := blk hA3; obtain ⟨q1, g1⟩ := blk hA4; obtain ⟨q2, g2⟩ := blk hA5);refine zM (kY rfl _ _ (w.heap.size + 2) (.int .i64 0) (.slice none 0 0) (.int .i64 0) (.slice none 0 0) rfl zAg) rfl ?_;refine ⟨fun l' h => kN, fun _ => rfl, ?_⟩;have := H1.out.trans (hb2.mono hs1)
  ((with_reducible repeat' first | exact zE _ _ | assumption | refine zG ?_ ?_ _ | refine zH ?_ | refine qQ ?_ | refine zF ?_ ?_ _) <;> go_size)
 | some l' =>
  go_enter Tryz.func195, Tryz.ntmps195;go_wp2_with (go_at_call 169; refine HT.out.mono ?_; rintro e w2 ⟨he2, _, hb2⟩; obtain ⟨a', b', rfl, ha', hb'⟩ := he2 _ rfl; obtain ⟨a1, c1, rfl⟩ := ha'.slice; obtain ⟨a2, c2, rfl⟩ := hb'.slice; obtain ⟨hA3, hA5, hA4⟩ := HB0.out _ hb2; obtain ⟨q0, g0⟩ := blk hA3; obtain ⟨q1, g1⟩ := blk hA4; obtain ⟨q2, g2⟩ := blk hA5);refine zM (kY rfl _ _ (w.heap.size + 2) (.int .i64 l'.quote) (.slice a1 l'.lists.length c1) (.int .i64 l'.kind) (.slice a2 l'.cells.length c2) rfl zAg) rfl ?_;refine ⟨fun l'' h => ?_, fun h => kN, ?_⟩
  ·cases h
   exact ⟨_, _, rfl, (qG (qB _) ha' jM (fun b h _ => jJ)), (qG (qB _) hb' jM (fun b h _ => jJ))⟩
  ·have := H1.out.trans (hb2.mono hs1)
   ((with_reducible repeat' first | exact zE _ _ | assumption | refine zG ?_ ?_ _ | refine zH ?_ | refine qQ ?_ | refine zF ?_ ?_ _) <;> go_size)
set_option maxRecDepth 100000 in
theorem zHd (kind : Int) (l : Lin) (la ca : Option Addr) (lc cc : Nat) (w w0 : World) (S : Nat → Prop) (hk : kind = 0 ∨ kind = 1) (hL : jI false w0 S (.slice la l.lists.length lc) l.lists) (hC : jC false w0 S (.slice ca l.cells.length cc) l.cells) (h0 : Below w0.heap.size w0 w)
  (he : EnvT w) (hs : l.lists.length ≤ 1000000 ∧ l.cells.length ≤ 1000000) (hh : ∀ c ∈ l.cells, c.href.length ≤ 1000000) (hm : mayL l = true) :
  Calls Tryz.prog 199 #[linV l (.slice la l.lists.length lc) (.slice ca l.cells.length cc), .int .i64 kind] w (yT w (xO kind l)) := by
 obtain ⟨W1, hW1, hB, hz, hA1, hA0, hA2⟩ := zFa w (.int .i64 l.quote) (.slice la l.lists.length lc) (.int .i64 l.kind) (.slice ca l.cells.length cc) (.int .i64 0) (.slice none 0 0) (.int .i64 0) (.slice none 0 0) (.int .i64 kind)
 have HT := zA (zCG 231 #[.pointer (some ⟨w.heap.size + 1, 0, none⟩)] (xO kind l) (enters_of Tryz.func231 zT rfl) l la ca lc cc W1 w0 S hL hC (jF h0 hB) (he.below hB) hs hh hm (fun n B la lc cv W hW hB1 hBn hnW hi hBb => by
  have hk1 := zX hW hA0;have hne : w.heap.size + 1 ≠ B := by omega
  first
   | exact zEi n B (w.heap.size + 1) l kind la lc cv W hBn hne hk1 hi hBb
   | exact zEZ n B (w.heap.size + 1) l kind la lc cv W hm hBn hne qC hnW hk1 hi hBb))
 have hs1 := hB.size;have HB0 : Hid (∀ W, Below W1.heap.size W1 W → W.heap[w.heap.size]? = some (.cells #[.int .i64 l.quote, .slice la l.lists.length lc, .int .i64 l.kind, .slice ca l.cells.length cc] 47) ∧ W.heap[w.heap.size + 1]? = some (.cells #[.int .i64 kind] 3) ∧ W.heap[w.heap.size + 2]? = some (.cells #[.int .i64 0, .slice none 0 0, .int .i64 0, .slice none 0 0] 47)) := zA fun W hW => ⟨zX hW hA1, zX hW hA0, zX hW hA2⟩;have H1 := zA hB;obtain ⟨p0, f0⟩ := blk hA0;obtain ⟨p1, f1⟩ := blk hA1;obtain ⟨p2, f2⟩ := blk hA2;obtain ⟨r, hr⟩ : ∃ r, xO kind l = r := ⟨_, rfl⟩;rw [hr] at HT ⊢;clear hL hC hs hB h0 hr hm he;unfold linV at HT ⊢;have hk2 : (kind != 0) = false ∨ ((kind != 0) = true ∧ (kind != 1) = false) := by rcases hk with rfl | rfl <;> simp
 clear hk;rcases hk2 with k0 | ⟨k0, k1⟩
 ·cases r with
   | none =>
    go_enter Tryz.func199, Tryz.ntmps199;go_wp2_with (go_at_call 169; refine HT.out.mono ?_; rintro e w2 ⟨_, he2, hb2⟩; obtain rfl := he2 rfl; obtain ⟨hA3, hA5, hA4⟩ := HB0.out _ hb2; obtain ⟨q0, g0⟩ := blk hA3; obtain ⟨q1, g1⟩ := blk hA4; obtain ⟨q2, g2⟩ := blk hA5);refine zM (kY rfl _ _ (w.heap.size + 2) (.int .i64 0) (.slice none 0 0) (.int .i64 0) (.slice none 0 0) rfl zAg) rfl ?_;refine ⟨fun l' h => kN, fun _ => rfl, ?_⟩;have := H1.out.trans (hb2.mono hs1)
    ((with_reducible repeat' first | exact zE _ _ | assumption | refine zG ?_ ?_ _ | refine zH ?_ | refine qQ ?_ | refine zF ?_ ?_ _) <;> go_size)
   | some l' =>
    go_enter Tryz.func199, Tryz.ntmps199;go_wp2_with (go_at_call 169; refine HT.out.mono ?_; rintro e w2 ⟨he2, _, hb2⟩; obtain ⟨a', b', rfl, ha', hb'⟩ := he2 _ rfl; obtain ⟨a1, c1, rfl⟩ := ha'.slice; obtain ⟨a2, c2, rfl⟩ := hb'.slice; obtain ⟨hA3, hA5, hA4⟩ := HB0.out _ hb2; obtain ⟨q0, g0⟩ := blk hA3; obtain ⟨q1, g1⟩ := blk hA4; obtain ⟨q2, g2⟩ := blk hA5);refine zM (kY rfl _ _ (w.heap.size + 2) (.int .i64 l'.quote) (.slice a1 l'.lists.length c1) (.int .i64 l'.kind) (.slice a2 l'.cells.length c2) rfl zAg) rfl ?_;refine ⟨fun l'' h => ?_, fun h => kN, ?_⟩
    ·cases h
     exact ⟨_, _, rfl, (qG (qB _) ha' jM (fun b h _ => jJ)), (qG (qB _) hb' jM (fun b h _ => jJ))⟩
    ·have := H1.out.trans (hb2.mono hs1)
     ((with_reducible repeat' first | exact zE _ _ | assumption | refine zG ?_ ?_ _ | refine zH ?_ | refine qQ ?_ | refine zF ?_ ?_ _) <;> go_size)
 ·cases r with
   | none =>
    go_enter Tryz.func199, Tryz.ntmps199;go_wp2_with (go_at_call 169; refine HT.out.mono ?_; rintro e w2 ⟨_, he2, hb2⟩; obtain rfl := he2 rfl; obtain ⟨hA3, hA5, hA4⟩ := HB0.out _ hb2; obtain ⟨q0, g0⟩ := blk hA3; obtain ⟨q1, g1⟩ := blk hA4; obtain ⟨q2, g2⟩ := blk hA5);refine zM (kY rfl _ _ (w.heap.size + 2) (.int .i64 0) (.slice none 0 0) (.int .i64 0) (.slice none 0 0) rfl zAg) rfl ?_;refine ⟨fun l' h => kN, fun _ => rfl, ?_⟩;have := H1.out.trans (hb2.mono hs1)
    ((with_reducible repeat' first | exact zE _ _ | assumption | refine zG ?_ ?_ _ | refine zH ?_ | refine qQ ?_ | refine zF ?_ ?_ _) <;> go_size)
   | some l' =>
    go_enter Tryz.func199, Tryz.ntmps199;go_wp2_with (go_at_call 169; refine HT.out.mono ?_; rintro e w2 ⟨he2, _, hb2⟩; obtain ⟨a', b', rfl, ha', hb'⟩ := he2 _ rfl; obtain ⟨a1, c1, rfl⟩ := ha'.slice; obtain ⟨a2, c2, rfl⟩ := hb'.slice; obtain ⟨hA3, hA5, hA4⟩ := HB0.out _ hb2; obtain ⟨q0, g0⟩ := blk hA3; obtain ⟨q1, g1⟩ := blk hA4; obtain ⟨q2, g2⟩ := blk hA5);refine zM (kY rfl _ _ (w.heap.size + 2) (.int .i64 l'.quote) (.slice a1 l'.lists.length c1) (.int .i64 l'.kind) (.slice a2 l'.cells.length c2) rfl zAg) rfl ?_;refine ⟨fun l'' h => ?_, fun h => kN, ?_⟩
    ·cases h
     exact ⟨_, _, rfl, (qG (qB _) ha' jM (fun b h _ => jJ)), (qG (qB _) hb' jM (fun b h _ => jJ))⟩
    ·have := H1.out.trans (hb2.mono hs1)
     ((with_reducible repeat' first | exact zE _ _ | assumption | refine zG ?_ ?_ _ | refine zH ?_ | refine qQ ?_ | refine zF ?_ ?_ _) <;> go_size)
theorem zGn (l : Lin) (la ca : Option Addr) (lc cc : Nat) (w w0 : World) (S : Nat → Prop) (hL : jI false w0 S (.slice la l.lists.length lc) l.lists) (hC : jC false w0 S (.slice ca l.cells.length cc) l.cells) (h0 : Below w0.heap.size w0 w)
  (he : EnvT w) (hs : l.lists.length ≤ 1000000 ∧ l.cells.length ≤ 1000000) (hh : ∀ c ∈ l.cells, c.href.length ≤ 1000000) (hm : mayL l = true) :
  Calls Tryz.prog 135 #[linV l (.slice la l.lists.length lc) (.slice ca l.cells.length cc)] w (yT w (vB l)) := by
 obtain ⟨W1, hW1, hB, hz, hA1, hA2⟩ := uS w (.int .i64 l.quote) (.slice la l.lists.length lc) (.int .i64 l.kind) (.slice ca l.cells.length cc) (.int .i64 0) (.slice none 0 0) (.int .i64 0) (.slice none 0 0);have HT := zA (zCG 196 #[] (vB l) (enters_of Tryz.func196 zT rfl) l la ca lc cc W1 w0 S hL hC (jF h0 hB) (he.below hB) hs hh hm (fun n B la lc cv W hW hB1 hBn hnW hi hBb => zHP n B l la lc cv W hm hBn hnW hi hBb));have hs1 := hB.size;have HB0 : Hid (∀ W, Below W1.heap.size W1 W → W.heap[w.heap.size]? = some (.cells #[.int .i64 l.quote, .slice la l.lists.length lc, .int .i64 l.kind, .slice ca l.cells.length cc] 47) ∧ W.heap[w.heap.size + 1]? = some (.cells #[.int .i64 0, .slice none 0 0, .int .i64 0, .slice none 0 0] 47)) := zA fun W hW => ⟨zX hW hA1, zX hW hA2⟩;have H1 := zA hB;obtain ⟨p1, f1⟩ := blk hA1;obtain ⟨p2, f2⟩ := blk hA2;obtain ⟨r, hr⟩ : ∃ r, vB l = r := ⟨_, rfl⟩;rw [hr] at HT ⊢;clear hL hC hs hB h0 hr hm he;unfold linV at HT ⊢;cases r with
 | none =>
  go_enter Tryz.func135, Tryz.ntmps135;go_wp2_with (go_at_call 169; refine HT.out.mono ?_; rintro e w2 ⟨_, he2, hb2⟩; obtain rfl := he2 rfl; obtain ⟨hA3, hA4⟩ := HB0.out _ hb2; obtain ⟨q0, g0⟩ := blk hA3; obtain ⟨q1, g1⟩ := blk hA4);refine zM (kY rfl _ _ (w.heap.size + 1) (.int .i64 0) (.slice none 0 0) (.int .i64 0) (.slice none 0 0) rfl zAg) rfl ?_;refine ⟨fun l' h => kN, fun _ => rfl, ?_⟩;have := H1.out.trans (hb2.mono hs1)
  ((with_reducible repeat' first | exact zE _ _ | assumption | refine zG ?_ ?_ _ | refine zH ?_ | refine qQ ?_ | refine zF ?_ ?_ _) <;> go_size)
 | some l' =>
  go_enter Tryz.func135, Tryz.ntmps135;go_wp2_with (go_at_call 169; refine HT.out.mono ?_; rintro e w2 ⟨he2, _, hb2⟩; obtain ⟨a', b', rfl, ha', hb'⟩ := he2 _ rfl; obtain ⟨a1, c1, rfl⟩ := ha'.slice; obtain ⟨a2, c2, rfl⟩ := hb'.slice; obtain ⟨hA3, hA4⟩ := HB0.out _ hb2; obtain ⟨q0, g0⟩ := blk hA3; obtain ⟨q1, g1⟩ := blk hA4);refine zM (kY rfl _ _ (w.heap.size + 1) (.int .i64 l'.quote) (.slice a1 l'.lists.length c1) (.int .i64 l'.kind) (.slice a2 l'.cells.length c2) rfl zAg) rfl ?_;refine ⟨fun l'' h => ?_, fun h => kN, ?_⟩
  ·cases h
   exact ⟨_, _, rfl, (qG (qB _) ha' jM (fun b h _ => jJ)), (qG (qB _) hb' jM (fun b h _ => jJ))⟩
  ·have := H1.out.trans (hb2.mono hs1)
   ((with_reducible repeat' first | exact zE _ _ | assumption | refine zG ?_ ?_ _ | refine zH ?_ | refine qQ ?_ | refine zF ?_ ?_ _) <;> go_size)
end Go.Proofs.YtjgeadoncanheaaGreatDoor
namespace Go.Proofs.YtjgeadoncanheaaGreatDoor
open Go.RowKit
open Go.Proofs.Qw
open _root_.List renaming getElem?_eq_some_iff → zK
theorem zDc {w : World} {S : Nat → Prop} {b o c : Nat} {O : Doc} (h : DocR true w S (.slice (some ⟨b, o, none⟩) O.length c) O) {i : Nat} {l : Lin} (hi : O[i]? = some l) (l' : Lin) (x1 x2 : Value) (h1 : jI true w S x1 l'.lists) (h2 : jC true w S x2 l'.cells) :
  ∃ W, (((w.setCell ⟨b, o + i * 4, none⟩ (.int .i64 l'.quote)).setCell ⟨b, o + i * 4 + 1, none⟩ x1).setCell ⟨b, o + i * 4 + 2, none⟩ (.int .i64 l'.kind)).setCell ⟨b, o + i * 4 + 3, none⟩ x2 = W ∧
   DocR true W S (.slice (some ⟨b, o, none⟩) O.length c) (O.set i l') ∧ (∀ d, d ≠ b → W.heap[d]? = w.heap[d]?) ∧ W.heap.size = w.heap.size ∧ (∀ m, m ≤ b → Below m w W) := by
 have hil := (zK.1 hi).1
 have hw := SliceR.write (R := uK true) (k := 4) kB.tag qV h (p := i) (ys := [l']) (news := [.int .i64 l'.quote, x1, .int .i64 l'.kind, x2]) jB
  (NewsR.one rfl ⟨_, _, rfl, h1, h2⟩) rfl
 refine ⟨_, rfl, ?_, fun d hd => by simp [jL, Ne.symm hd], by simp, fun m hm => ((((Below.refl _ _).setCell hm _).setCell hm _).setCell hm _).setCell hm _⟩;have e : O.take i ++ [l'] ++ O.drop (i + 1) = O.set i l' := (zLc hi l').symm;simp only [List.length_singleton] at hw;rw [e] at hw;exact hw
theorem zBU {w : World} {S : Nat → Prop} {a : Option Addr} {n c : Nat} {O : Doc} (h : DocR true w S (.slice a n c) O) {i : Nat} {l : Lin} (hi : O[i]? = some l) :
  ∃ b o la lc ca cc, a = some ⟨b, o, none⟩ ∧ S b ∧ b < w.heap.size ∧ LinAt w S b (o + i * 4) l la lc ca cc ∧ (∀ k, w.frozen? ⟨b, k, none⟩ = false) ∧ ∃ cs, w.heap[b]? = some (.cells cs 47) := by
 have hil := (zK.1 hi).1;obtain ⟨b, o, cs, rfl, hb, hcs, hle⟩ := SliceR.cellAt h hil;obtain ⟨a', c', e, _, _, hx⟩ := kP h.read;cases e;obtain ⟨b', o', la, lc, ca, cc, e, hA⟩ := hx i l hi;cases e;exact ⟨b, o, la, lc, ca, cc, rfl, hb, hA.lt, hA, fun k => xF hcs, cs, hcs⟩
end Go.Proofs.YtjgeadoncanheaaGreatDoor
namespace Go.Proofs.YtjgeadoncanheaaGreatDoor
open Go.RowKit
open Go.Proofs.Qw
attribute [local go_sem] Oper.semAt_some
open _root_.Go.Lib renaming hid → zA
open _root_.And renaming intro → zB
open _root_.Nat renaming le_refl → zC, le_trans → zD
open _root_.Go.RowKit.Below renaming refl → zE, setCell → zF, alloc → zG, drew → zH
open _root_.Go renaming bodyPost_ret → zM
open _root_.Int renaming natCast_nonneg → zR
open _root_.Go.Proofs.Tryz renaming prog → zV
open _root_.Go.Proofs.YtjgeadoncanheaaGreatDoor renaming jF → zW, jG → zX, jH → zY, jD → qF, jN → qQ, jL → qR
open _root_.Go.Proofs.Qw renaming jW → zZ, jV → qB
open _root_.Go.Proofs.Qw.SliceR renaming stable → qG
open _root_.Go.Proofs.Qw.Keeps renaming refl → qM, alloc → qN, drew → qO, set → qP
def anyX {w0 : World} {S : Nat → Prop} {s : St} (f : Lin → Option Lin) (pre : List (SelX w0 S s)) : Bool := pre.any fun x => (f x.l).isSome
def EB {w0 : World} {S : Nat → Prop} {s : St} (f : Lin → Option Lin) (v fv : Value) (w : World) (Bo Bm Z : Nat) (pre : List (SelX w0 S s)) (W : World) : Prop :=
 W.heap[Bo]? = some (.cells #[v, .int .i64 s.anc.line, .int .i64 s.anc.col, .int .i64 s.foc.line, .int .i64 s.foc.col, .int .i64 0, .int .i64 0] 26) ∧ W.heap[Bm]? = some (.cells #[.int .i64 (if anyX f pre = true then 0 else 7)] 48) ∧
  W.heap[w.heap.size + 1]? = some (.cells #[fv] 124) ∧ W.heap[w.heap.size + 2]? = some (.cells #[.slice none 0 0, .int .i64 0, .int .i64 0, .int .i64 0, .int .i64 0, .int .i64 0, .int .i64 0] 26) ∧ DocR true W (fun b => w.heap.size + 3 ≤ b ∧ b ≠ Bo ∧ b ≠ Bm) v (yY f s (pre.map (·.i))) ∧ Below w.heap.size w W ∧ Z ≤ W.heap.size
theorem zLo {w0 : World} {S : Nat → Prop} {s : St} {f : Lin → Option Lin} {v fv : Value} {w : World} {Bo Bm Z B : Nat} (hB : w.heap.size ≤ B) : OwnFrom B (EB (w0 := w0) (S := S) (s := s) f v fv w Bo Bm Z) :=
 OwnFrom.and (kZ _ _ _ _) (OwnFrom.and (fun pre X _ _ hs hg hr => kZ (β := Unit) B _ _ _ () X _ _ hs hg hr) (OwnFrom.and (kZ _ _ _ _) (OwnFrom.and (kZ _ _ _ _) (OwnFrom.and (uZ _ _ _ _) (OwnFrom.and (ownFrom_below (zC _) hB) (uA _ _))))))
theorem zHV (w : World) (v fv : Value) (s : St) : ∃ W1, ((w.alloc (.cells #[v, .int .i64 s.anc.line, .int .i64 s.anc.col, .int .i64 s.foc.line, .int .i64 s.foc.col, .int .i64 s.on, .int .i64 s.off] 26)).alloc (.cells #[fv] 124)).alloc (.cells #[.slice none 0 0, .int .i64 0, .int .i64 0, .int .i64 0, .int .i64 0, .int .i64 0, .int .i64 0] 26) = W1 ∧ Below w.heap.size w W1 ∧ w.heap.size + 3 = W1.heap.size ∧
  W1.heap[w.heap.size]? = some (.cells #[v, .int .i64 s.anc.line, .int .i64 s.anc.col, .int .i64 s.foc.line, .int .i64 s.foc.col, .int .i64 s.on, .int .i64 s.off] 26) ∧ W1.heap[w.heap.size + 1]? = some (.cells #[fv] 124) ∧ W1.heap[w.heap.size + 2]? = some (.cells #[.slice none 0 0, .int .i64 0, .int .i64 0, .int .i64 0, .int .i64 0, .int .i64 0, .int .i64 0] 26) :=
 ⟨_, rfl, (((zE _ _).alloc (zC _) _).alloc qE _).alloc jB _, by simp, zY _ _ (zY _ _ (qF _ _ rfl)), zY _ _ (qF _ _ qE), qF _ _ qE⟩
theorem zCP (w : World) : w.drew.heap = w.heap := rfl
theorem zDg (p q : Nat) (a b : Value) (t : Array Value) : (#[p, q].zip #[a, b]).foldl (fun t x => match x with | (p, v) => t.setIfInBounds p v) t = (t.setIfInBounds p a).setIfInBounds q b := by simp
theorem zKp {w : World} {B : Nat} {cs : Array Value} {t : TypeId} (h : w.heap[B]? = some (.cells cs t)) : ∀ X Y k, ((w.alloc X).alloc Y).cell? ⟨B, k, none⟩ = cs[k]? := fun X Y _ => jR (zY _ Y (zY _ X h))
set_option maxRecDepth 200000 in
theorem zBd (v : Value) (s : St) (g : Nat) (lb : Array Value) (f : Lin → Option Lin) (w : World) (S : Nat → Prop) (h : jE w S v s.lines) (he : EnvT w) (hs : Small s.lines) (hf : Fits s.lines)
  (eg : ∀ args w, (callFunc g args).run zV w = .ok (.enter g args) w)
  (hg : ∀ (W : World) (l : Lin) (la ca : Option Addr) (lc cc : Nat), Below w.heap.size w W → l ∈ s.lines → mayL l = true → jI false w S (.slice la l.lists.length lc) l.lists → jC false w S (.slice ca l.cells.length cc) l.cells → Calls zV g (#[linV l (.slice la l.lists.length lc) (.slice ca l.cells.length cc)] ++ lb) W (yT W (f l))) :
  Calls zV 134 #[stV v s, .func (.func g) #[] lb] w (StSaid (kD f s) w) := by
 obtain ⟨W1, hW1, hB, hz, k0, k1, k2⟩ := zHV w v (.func (.func g) #[] lb) s;have HB : Hid (∀ W, Below W1.heap.size W1 W → W.heap[w.heap.size]? = some (.cells #[v, .int .i64 s.anc.line, .int .i64 s.anc.col, .int .i64 s.foc.line, .int .i64 s.foc.col, .int .i64 s.on, .int .i64 s.off] 26) ∧ W.heap[w.heap.size + 1]? = some (.cells #[.func (.func g) #[] lb] 124) ∧ W.heap[w.heap.size + 2]? = some (.cells #[.slice none 0 0, .int .i64 0, .int .i64 0, .int .i64 0, .int .i64 0, .int .i64 0, .int .i64 0] 26)) := zA fun W hW => ⟨zX hW k0, zX hW k1, zX hW k2⟩;have hs1 := hB.size;have H1 := zA hB;have hw0 : Below W1.heap.size W1 W1 := zE _ _;have HV : Hid (∀ W, Below W1.heap.size W1 W → jE W S v s.lines) := zA fun W hW => h.below (zZ _) (hB.trans (hW.mono hs1));have HE : Hid (∀ W, Below W1.heap.size W1 W → EnvT W) := zA fun W hW => (he.below hB).below hW;have HM : Hid (∀ W, Below W1.heap.size W1 W → Calls zV 27 #[stV v s] W fun e w' => e = .returned (.bool (mayS s)) ∧ Below W.heap.size W w') := zA fun W hW => vQ v s W S (HV.out W hW) (HE.out W hW) hs;have HOw : Hid (∀ W, Below W1.heap.size W1 W → Calls zV 182 #[stV v s] W fun e w' => ∃ v', e = .returned (stV v' s) ∧ DocR true w' (fun b => W.heap.size ≤ b) v' s.lines ∧ Below W.heap.size W w') := zA fun W hW => zET v s W S (HV.out W hW) hf;have HVF := zA (zB h (zB hs hf));have HG := zA hg;have HR := zA (show kD f s = if mayS s = true then (if xW (fun l => (f l).isSome) s s.lines.length = true then (⟨zBs f s, s.anc, s.foc, 0, 0⟩, 0) else (noS, 7)) else (noS, 1) from rfl);obtain ⟨p0, f0⟩ := blk k0;obtain ⟨p1, f1⟩ := blk k1;obtain ⟨p2, f2⟩ := blk k2;obtain ⟨va, vc, rfl⟩ := h.slice;cases hm : mayS s
 ·rw [hm] at HM HR
  have HR : Hid (kD f s = (noS, 1)) := zA (HR.out.trans (if_neg qE));clear h he hs hf k0 k1 k2 hB hm HOw HVF HG hg;go_enter Tryz.func134, Tryz.ntmps134;go_wp2_with (go_at_call 27; refine (HM.out _ hw0).mono ?_; rintro e w2 ⟨rfl, hb2⟩; obtain ⟨q0, g0⟩ := blk (HB.out _ hb2).1; obtain ⟨q2, g2⟩ := blk (HB.out _ hb2).2.2);refine zM (jQ rfl _ _ (w.heap.size + 2) (.slice none 0 0) (.int .i64 0) (.int .i64 0) (.int .i64 0) (.int .i64 0) (.int .i64 0) (.int .i64 0) (.int .i64 1) rfl rfl (by simp [qR, qW, (HB.out _ hb2).2.2])) rfl ?_;unfold StSaid;rw [HR.out];have hfin := H1.out.trans (hb2.mono hs1);exact ⟨_, rfl, SliceR.nil _ _ _ _ _ _, by ((with_reducible repeat' first | exact zE _ _ | assumption | refine zG ?_ ?_ _ | refine zH ?_ | refine qQ ?_ | refine zF ?_ ?_ _) <;> go_size)⟩
 rw [hm] at HM HR;rw [if_pos rfl] at HR;obtain ⟨i, j, hi, hj, hij, hjl⟩ := zBN hm;have HSI := zA (zB hi hj)
 have HR : Hid (kD f s = if ((List.range' i (j + 1 - i)).any fun k => (f (kA s k)).isSome) = true then (⟨yY f s (List.range' i (j + 1 - i)), s.anc, s.foc, 0, 0⟩, 0) else (noS, 7)) := zA (by
  rw [HR.out, zIE hi hj hij hjl];have := zFk hi hj hij hjl (fun l => (f l).isSome);rw [this])
 have HML : Hid (∀ l ∈ s.lines, mayL l = true) := zA (zAl.1 (uW hm).1).2.2.2;clear h he hs hf k0 k1 k2 hB hm hg hi hj;refine (callsIn_wide (n := 6)).1 ?_;refine callsIn_of_wp_marks Tryz.func134 rfl trivial ?_ rfl;simp only [Tryz.ntmps134, List.size_toArray, List.length_cons, List.length_nil, Nat.reduceAdd, Nat.reduceSub, Array.replicate_succ, Array.replicate_zero, List.push_toArray, List.append_toArray, List.nil_append, List.cons_append];have hwf : ∀ f, Fence.wide.fn f := fun _ => trivial;have hwd : Fence.wide.depth = none := rfl
 gi_wp2_with (first
  | (gi_at_call 27; refine (callsIn_wide.2 (HM.out _ hw0)).mono ?_; rintro e w2 ⟨rfl, hb2⟩; obtain ⟨q0, g0⟩ := blk (HB.out _ hb2).1)
  | (gi_at_call 182; refine (callsIn_wide.2 (HOw.out _ hb2)).mono ?_; rintro e w3 ⟨v3, rfl, hv3, hst3⟩; obtain ⟨a3, c3, rfl⟩ := hv3.slice; have hb3 := zW hb2 hst3; have HV3 := zA hv3; clear hv3; obtain ⟨q1, g1⟩ := blk (HB.out _ hb3).1; have hz3 := hb3.size; have na3 : ¬ w3.heap.size = w.heap.size := qC; have r1 := zKp (HB.out _ hb3).1)
  | (gi_at_call 46; refine (callsIn_wide.2 (zCt _ _ _ s _)).mono ?_; rintro e w5 ⟨rfl, rfl⟩))
 have HP : Hid (∀ (u : Value), stV u s = .agg #[u, .int .i64 s.anc.line, .int .i64 s.anc.col, .int .i64 s.foc.line, .int .i64 s.foc.col, .int .i64 s.on, .int .i64 s.off]) := zA fun _ => rfl;obtain ⟨w6, hw6⟩ : ∃ w6, ((w3.alloc (.cells #[.slice a3 s.lines.length c3, .int .i64 s.anc.line, .int .i64 s.anc.col, .int .i64 s.foc.line, .int .i64 s.foc.col, .int .i64 0, .int .i64 0] 26)).alloc (.cells #[.int .i64 7] 48)).alloc (.cells #[.slice va s.lines.length vc, .int .i64 s.anc.line, .int .i64 s.anc.col, .int .i64 s.foc.line, .int .i64 s.foc.col, .int .i64 s.on, .int .i64 s.off] 26) = w6 := ⟨_, rfl⟩;rw [hw6];have hb36 : Below w3.heap.size w3 w6 := hw6 ▸ (((zE _ _).alloc (zC _) _).alloc qE _).alloc jB _;have hz6 : w6.heap.size = w3.heap.size + 3 := by rw [← hw6]; simp
 have m0 : w6.heap[w3.heap.size]? = some (.cells #[.slice a3 s.lines.length c3, .int .i64 s.anc.line, .int .i64 s.anc.col, .int .i64 s.foc.line, .int .i64 s.foc.col, .int .i64 0, .int .i64 0] 26) := hw6 ▸ zY _ _ (zY _ _ (qF _ _ rfl));have m1 : w6.heap[w3.heap.size + 1]? = some (.cells #[.int .i64 7] 48) := hw6 ▸ zY _ _ (qF _ _ qE);have m2 : w6.heap[w3.heap.size + 1 + 1]? = some (.cells #[.slice va s.lines.length vc, .int .i64 s.anc.line, .int .i64 s.anc.col, .int .i64 s.foc.line, .int .i64 s.foc.col, .int .i64 s.on, .int .i64 s.off] 26) := hw6 ▸ qF _ _ qE;have hb6 := zW hb3 hb36;have hw3 : Below w.heap.size w w3 := H1.out.trans (hb3.mono hs1);have hbw : Below w.heap.size w w6 := hw3.trans (hb36.mono qC);have hs2 := hb2.size;have hzz : w.heap.size + 3 ≤ w3.heap.size := by omega
 have hEB : EB (w0 := w) (S := S) (s := s) f (.slice a3 s.lines.length c3) (.func (.func g) #[] lb) w w3.heap.size (w3.heap.size + 1) w6.heap.size [] w6 := ⟨m0, m1, zX hb36 (HB.out _ hb3).2.1, zX hb36 (HB.out _ hb3).2.2, qG (zZ true) HV3.out (.all hb36) (fun b hb hz => (by have hb : w2.heap.size ≤ b := hb; exact ⟨by omega, by omega, by omega⟩)), hbw, zC _⟩;have N2 := zA m2;have HBW := zA hbw;clear hw6 q0 g0 q1 g1 r1 p0 f0 p1 f1 p2 f2 hW1 m0 m1 m2
 refine zBa rfl qC (gf := 87) (lb := #[.pointer (some ⟨w3.heap.size + 1 + 1, 0, none⟩)]) rfl trivial (enters_of Tryz.func87 zT rfl)
  (encs := zAc (w0 := w) (S := S) (s := s)) (n₀ := w.heap.size) (base := w3.heap.size + 2) (S := fun ys => ys.map (·.i) = List.range' i (j + 1 - i)) (Sp := fun pre => pre.map (·.i) = List.range' i pre.length ∧ pre.length ≤ j + 1 - i) (N := 200000) (w0 := w6) ?seq qC (zE _ _) (fun _ => rfl)
  (EB f (.slice a3 s.lines.length c3) (.func (.func g) #[] lb) w w3.heap.size (w3.heap.size + 1) w6.heap.size) (fun _ _ _ => False) (zLo qC) (fun _ _ _ _ _ hs _ _ => hs) hEB (fun _ _ h => h.2.2.2.2.2.2)
  (fun x => #[.int .i64 x.l.quote, .slice x.la x.l.lists.length x.lc, .int .i64 x.l.kind, .slice x.ca x.l.cells.length x.cc]) 47 ?act ?assign ?body ?done ?stop
 case seq =>
  intro l J Jx W hW hJ _ hY h0;have hzW := hW.size;exact zDi 5 l (w3.heap.size + 1 + 1) (w3.heap.size + 2) (.slice va s.lines.length vc) s i j S w W J Jx HVF.out.1 (HBW.out.trans (hW.mono HBW.out.size)) qC qC (zX hW N2.out) HSI.out.1 HSI.out.2 hij hjl HVF.out.2.1.2.1 hJ hY h0
 case assign =>
  intro l pre x W K Bx hBx hI hK;unfold zAc linV;rw [zDg];simp only [qI, qX, qY]
  repeat (first | go_values | gi_guarded | gi_step | gi_upon)
  rw [← hBx];exact hK
 case body =>
  intro l pre x Bx W hI hBx hbx hlt;obtain ⟨t0, t1, t2, t3, hD, hb, hz⟩ := hI;obtain ⟨k, ln, la, lc, ca, cc, row, hL, hC⟩ := x;have hkl := (List.getElem?_eq_some_iff.1 row).1;have hmem := List.mem_of_getElem? row;have hGG := zA (fun W' (hW' : Below w.heap.size w W') => HG.out W' ln la ca lc cc hW' hmem (HML.out ln hmem) hL hC);obtain ⟨O, hO⟩ : ∃ O, yY f s (pre.map (·.i)) = O := ⟨_, rfl⟩;have hOl : O.length = s.lines.length := by rw [← hO, zJu]
  rw [hO] at hD;obtain ⟨m, hm, _⟩ := jO O k qC;have hAny : anyX f (pre ++ [(⟨k, ln, la, lc, ca, cc, row, hL, hC⟩ : SelX w S s)]) = (anyX f pre || (f ln).isSome) := by simp [anyX]
  have hFold : yY f s ((pre ++ [(⟨k, ln, la, lc, ca, cc, row, hL, hC⟩ : SelX w S s)]).map (·.i)) = match f ln with | some l' => O.set k l' | none => O := by
   rw [List.map_append, List.map_singleton, zEI, hO]
   show (match s.lines[k]? with | some l => (match f l with | some l' => O.set k l' | none => O) | none => O) = _
   rw [row]
  obtain ⟨s0, s0f⟩ := blk t0;obtain ⟨s1, s1f⟩ := blk t1;obtain ⟨s2, s2f⟩ := blk t2;obtain ⟨sx, sxf⟩ := blk hbx;have hbW : Below w.heap.size w W := hb;have HIN := zA (zB t0 (zB t1 (zB t2 (zB hb (zB hz t3)))));have HD := zA hD;have HF := zA hFold;have HA := zA hAny;have HX := zA hbx;have HM := zA hm;have hzW := hb.size;have hgg := hGG.out W hb;unfold linV at hgg;obtain ⟨r, hr⟩ : ∃ r, f ln = r := ⟨_, rfl⟩;rw [hr] at HF HA hgg;have HC := zA hgg;clear t0 t1 t2 t3 hD hb hFold hAny hbx hm hgg hGG hO;simp only at s0 sx ⊢;cases r with
  | none =>
   gi_wp2_with fail
   refine (callsIn_wide.2 HC.out).mono ?_;rintro e w7 ⟨_, he7, hb7⟩;obtain rfl := he7 rfl
   gi_wp2_with fail
   have hb8 : Below W.heap.size W (w7.alloc (.cells #[.int .i64 0, .slice none 0 0, .int .i64 0, .slice none 0 0] 47)) := hb7.alloc hb7.size _;have hbw8 := zW HIN.out.2.2.2.1 hb8;refine ⟨(vI hb8).from _, Kp.of_below (by have := HIN.out.2.2.2.1.size; omega) hb8, zX hb8 HIN.out.1, ?_, zX hb8 HIN.out.2.2.1, zX hb8 HIN.out.2.2.2.2.2, ?_, hbw8, ?_⟩
   ·rw [HA.out, Option.isSome_none, Bool.or_false]
    exact zX hb8 HIN.out.2.1
   ·rw [HF.out]
    exact SliceR.below (zZ true) HD.out hb8
   ·have := hb8.size; have := HIN.out.2.2.2.2.1; omega
  | some l' =>
   gi_wp2_with fail
   refine (callsIn_wide.2 HC.out).mono ?_;rintro e w7 ⟨he7, _, hb7⟩;obtain ⟨x1, x2, rfl, hx1, hx2⟩ := he7 _ rfl;obtain ⟨a1, c1, rfl⟩ := hx1.slice;obtain ⟨a2, c2, rfl⟩ := hx2.slice;have HX12 := zA (zB hx1 hx2);have hz7 := hb7.size;have hb7w : Below w.heap.size w w7 := zW HIN.out.2.2.2.1 hb7;have hD7 := SliceR.below (zZ true) HD.out hb7;obtain ⟨b4, o4, la4, lc4, ca4, cc4, e4, hS4, hlt4, hA4, hfr4, cs4, hcs4⟩ := zBU (a := a3) (n := s.lines.length) (c := c3) hD7 HM.out;subst e4
   have hv4 : b4 < w3.heap.size ∧ w2.heap.size ≤ b4 := by
    obtain ⟨b5, o5, la5, lc5, ca5, cc5, e5, hS5, hlt5, _⟩ := zBU HV3.out row;cases e5;exact ⟨hlt5, hS5⟩
   have hS4 : w.heap.size ≤ b4 := by have := hS4.1; omega
   obtain ⟨y0, y0f⟩ := blk (zX hb7 HIN.out.1);obtain ⟨y1, y1f⟩ := blk (zX hb7 HIN.out.2.1);obtain ⟨_, k0, k1, k2, k3, _, _⟩ := hA4;have v1 : ¬ b4 = w3.heap.size := by omega
   have v2 : ¬ b4 = w3.heap.size + 1 := by omega
   have v3 : ¬ w3.heap.size = b4 := by omega
   have v4 : ¬ w3.heap.size + 1 = b4 := by omega
   have v5 : w3.heap.size + 1 < w7.heap.size := by omega
   have v6 : w3.heap.size < w7.heap.size := by omega
   have v7 : b4 < w7.heap.size := by omega
   have t1 := jP (y1 0);have t5 : ∀ ob k, (w7.alloc ob).frozen? ⟨w3.heap.size + 1, k, none⟩ = false := fun ob k => xF (zY _ ob (zX hb7 HIN.out.2.1));have HD7 := zA hD7;have i0 : (0 : Int) ≤ (k : Int) := zR _;have i1 : (k : Int) < (s.lines.length : Int) := by omega
   have t0 := jP (y0 0);have t4 : ∀ ob k, (w7.alloc ob).frozen? ⟨b4, k, none⟩ = false := fun ob k => xF (zY _ ob hcs4);have u0 := jP k0;have u1 := jP k1;have u2 := jP k2;have u3 := jP k3;clear hx1 hx2 hD7 hcs4;unfold linV;simp only []
   repeat (first | go_values | gi_guarded | gi_step | gi_upon)
   have hx1 : jI true w7 (fun b => w.heap.size + 3 ≤ b ∧ b ≠ w3.heap.size ∧ b ≠ w3.heap.size + 1) (.slice a1 l'.lists.length c1) l'.lists := qG (qB _) HX12.out.1 (qM _ _) (fun b h _ => by have h' : W.heap.size ≤ b := h; have := HIN.out.2.2.2.2.1; exact ⟨by omega, by omega, by omega⟩);have hx2 : jC true w7 (fun b => w.heap.size + 3 ≤ b ∧ b ≠ w3.heap.size ∧ b ≠ w3.heap.size + 1) (.slice a2 l'.cells.length c2) l'.cells := qG (qB _) HX12.out.2 (qM _ _) (fun b h _ => by have h' : W.heap.size ≤ b := h; have := HIN.out.2.2.2.2.1; exact ⟨by omega, by omega, by omega⟩);have hd7 := HD7.out;rw [← hOl] at hd7;obtain ⟨W9, hW9, hD9, hk9, hz9, hb9⟩ := zDc hd7 HM.out l' (.slice a1 l'.lists.length c1) (.slice a2 l'.cells.length c2) hx1 hx2;rw [hW9];obtain ⟨W10, hW10⟩ : ∃ W10, (W9.setCell ⟨w3.heap.size + 1, 0, none⟩ (.int .i64 0)).alloc (.cells #[.int .i64 l'.quote, .slice a1 l'.lists.length c1, .int .i64 l'.kind, .slice a2 l'.cells.length c2] 47) = W10 := ⟨_, rfl⟩;rw [hW10]
   have hkp : Kp w.heap.size (w3.heap.size + 2) w7 W10 := by
    rw [← hW10, ← hW9];exact (((((Kp.setCell _ hS4 qC _).t (Kp.setCell _ hS4 qC _)).t (Kp.setCell _ hS4 qC _)).t (Kp.setCell _ hS4 qC _)).t (Kp.setCell _ qC qC _)).t (Kp.of_below jB ((zE _ _).alloc (zC _) _))
   have hko : KeepsOthers w7 W10 := by
    rw [← hW10, ← hW9];exact (((((KeepsOthers.setCell _ _ _).trans (KeepsOthers.setCell _ _ _)).trans (KeepsOthers.setCell _ _ _)).trans (KeepsOthers.setCell _ _ _)).trans (KeepsOthers.setCell _ _ _)).trans (KeepsOthers.alloc _ _)
   have hH : ∀ b o, b ≠ b4 → b ≠ w3.heap.size + 1 → w7.heap[b]? = some o → W10.heap[b]? = some o := fun b o h1 h2 h3 => by
    rw [← hW10];exact zY _ _ (by rw [qR, if_neg (Ne.symm h2), hk9 b h1, h3])
   have hM : W10.heap[w3.heap.size + 1]? = some (.cells #[.int .i64 0] 48) := by
    rw [← hW10];exact zY _ _ (by rw [qR, if_pos rfl, hk9 _ v4, zX hb7 HIN.out.2.1]; rfl)
   have hD10 : DocR true W10 (fun b => w.heap.size + 3 ≤ b ∧ b ≠ w3.heap.size ∧ b ≠ w3.heap.size + 1) (.slice (some ⟨b4, o4, none⟩) O.length c3) (O.set k l') := by
    rw [← hW10];exact qG (zZ true) hD9 (((qM _ _).set qE _).alloc _) (fun b h _ => h)
   refine ⟨((vI hb7).trans hko).from _, (Kp.of_below qC hb7).t hkp, hH _ _ v3 qC (zX hb7 HIN.out.1), ?_, hH _ _ qC qC (zX hb7 HIN.out.2.2.1), hH _ _ qC qC (zX hb7 HIN.out.2.2.2.2.2), ?_, hb7w.trans hkp.below, ?_⟩
   ·rw [HA.out, Option.isSome_some, Bool.or_true]
    exact hM
   ·rw [HF.out, ← hOl]
    exact hD10
   ·have := hkp.below.size; have := HIN.out.2.2.2.2.1; omega
 case done =>
  rintro D ys W hD hys ⟨t0, t1, t2, t3, hDoc, hb, hz⟩ hK
  have hAny : anyX f ys = (List.range' i (j + 1 - i)).any fun k => (f (kA s k)).isSome := by
   rw [← hys, List.any_map];unfold anyX;refine congrArg (List.any ys) (funext fun x => ?_)
   show _ = (f (kA s x.i)).isSome
   have : kA s x.i = x.l := by unfold kA; rw [List.getD_eq_getElem?_getD, x.row]; rfl
   rw [this]
  rw [hys] at hDoc;rw [← hAny] at HR;have HDOC := zA hDoc;have HB9 := zA hb;have HK9 := zA hK;have HT := zA (zB t0 (zB t1 t3));obtain ⟨s0, s0f⟩ := blk t0;obtain ⟨s1, s1f⟩ := blk t1;obtain ⟨s3, s3f⟩ := blk t3;have w1 : ¬ w.heap.size + 2 = w3.heap.size := by omega
  have w2' : ¬ w.heap.size + 2 = w3.heap.size + 1 := by omega
  have w3' : ¬ w3.heap.size = w.heap.size + 2 := by omega
  have w4' : ¬ w3.heap.size + 1 = w.heap.size + 2 := by omega
  have w5' : ¬ w.heap.size + 2 = D := by omega
  have w6' : ¬ D = w.heap.size + 2 := by omega
  cases hA : anyX f ys
  ·rw [hA] at HR s1
   have HR : Hid (kD f s = (noS, 7)) := zA (HR.out.trans (if_neg qE));have s1 : ∀ k, W.cell? ⟨w3.heap.size + 1, k, none⟩ = #[Value.int .i64 7][k]? := s1;clear hDoc t0 t1 t2 t3 hb hK hA hAny
   gi_wp2_with fail
   gi_region
   gi_wp2_with fail
   obtain ⟨Y, hY⟩ : ∃ Y, World.drew (((((((W.setCell ⟨w.heap.size + 1 + 1, 0, none⟩ (.slice none 0 0)).setCell ⟨w.heap.size + 1 + 1, 1, none⟩ (.int .i64 0)).setCell ⟨w.heap.size + 1 + 1, 2, none⟩ (.int .i64 0)).setCell ⟨w.heap.size + 1 + 1, 3, none⟩ (.int .i64 0)).setCell ⟨w.heap.size + 1 + 1, 4, none⟩ (.int .i64 0)).setCell ⟨w.heap.size + 1 + 1, 5, none⟩ (.int .i64 0)).setCell ⟨w.heap.size + 1 + 1, 6, none⟩ (.int .i64 0)) = Y := ⟨_, rfl⟩;rw [hY];have hYB : Y.heap[w.heap.size + 2]? = some (.cells #[.slice none 0 0, .int .i64 0, .int .i64 0, .int .i64 0, .int .i64 0, .int .i64 0, .int .i64 0] 26) := by rw [← hY, zCP]; simp [qR, qW, HT.out.2.2]
   have hYD : Y.heap[D]? = some (.deferred (some [])) := by rw [← hY, zCP]; simp [qR, HK9.out, w5']
   have hYb : Below w.heap.size w Y := by
    rw [← hY];exact (((((((HB9.out.setCell xC _).setCell xC _).setCell xC _).setCell xC _).setCell xC _).setCell xC _).setCell xC _).drew
   refine ⟨by simp, .inl ⟨_, _, rfl, run_takeDeferred hYD, ?_⟩⟩;refine ⟨_, jQ rfl _ _ (w.heap.size + 2) _ _ _ _ _ _ _ (.int .i64 7) rfl rfl ((World.putObj_heap_other qC).trans hYB), ?_⟩;unfold StSaid;rw [HR.out];exact ⟨_, rfl, SliceR.nil _ _ _ _ _ _, hYb.trans (belowK_b (w := w) (zC _) Y D _ _ qC hYD rfl rfl)⟩
  ·rw [hA] at HR s1
   have HR : Hid (kD f s = (⟨yY f s (List.range' i (j + 1 - i)), s.anc, s.foc, 0, 0⟩, 0)) := zA (HR.out.trans (if_pos rfl));have s1 : ∀ k, W.cell? ⟨w3.heap.size + 1, k, none⟩ = #[Value.int .i64 0][k]? := s1;clear hDoc t0 t1 t2 t3 hb hK hA hAny
   gi_wp2_with fail
   obtain ⟨Y, hY⟩ : ∃ Y, (((((((W.setCell ⟨w.heap.size + 1 + 1, 0, none⟩ (.slice a3 s.lines.length c3)).setCell ⟨w.heap.size + 1 + 1, 1, none⟩ (.int .i64 s.anc.line)).setCell ⟨w.heap.size + 1 + 1, 2, none⟩ (.int .i64 s.anc.col)).setCell ⟨w.heap.size + 1 + 1, 3, none⟩ (.int .i64 s.foc.line)).setCell ⟨w.heap.size + 1 + 1, 4, none⟩ (.int .i64 s.foc.col)).setCell ⟨w.heap.size + 1 + 1, 5, none⟩ (.int .i64 0)).setCell ⟨w.heap.size + 1 + 1, 6, none⟩ (.int .i64 0)) = Y := ⟨_, rfl⟩;rw [hY];have hYB : Y.heap[w.heap.size + 2]? = some (.cells #[.slice a3 s.lines.length c3, .int .i64 s.anc.line, .int .i64 s.anc.col, .int .i64 s.foc.line, .int .i64 s.foc.col, .int .i64 0, .int .i64 0] 26) := by rw [← hY]; simp [qR, qW, HT.out.2.2]
   have hYD : Y.heap[D]? = some (.deferred (some [])) := by rw [← hY]; simp [qR, HK9.out, w5']
   have hYb : Below w.heap.size w Y := by
    rw [← hY];exact (((((((HB9.out.setCell xC _).setCell xC _).setCell xC _).setCell xC _).setCell xC _).setCell xC _).setCell xC _)
   refine ⟨by simp, .inl ⟨_, _, rfl, run_takeDeferred hYD, ?_⟩⟩;refine ⟨_, jQ rfl _ _ (w.heap.size + 2) _ _ _ _ _ _ _ (.int .i64 0) rfl rfl ((World.putObj_heap_other qC).trans hYB), ?_⟩;unfold StSaid;rw [HR.out];refine ⟨_, rfl, ?_, ?_⟩
   ·rw [if_pos trivial]
    have hYd : DocR true Y (fun b => w.heap.size + 3 ≤ b ∧ b ≠ w3.heap.size ∧ b ≠ w3.heap.size + 1) (.slice a3 s.lines.length c3) (yY f s (List.range' i (j + 1 - i))) := by
     rw [← hY];refine qG (zZ true) HDOC.out ?_ (fun b h _ => h);have hns : ¬ (w.heap.size + 3 ≤ w.heap.size + 1 + 1 ∧ w.heap.size + 1 + 1 ≠ w3.heap.size ∧ w.heap.size + 1 + 1 ≠ w3.heap.size + 1) := by omega
     exact (((((((qM _ _).set hns _).set hns _).set hns _).set hns _).set hns _).set hns _).set hns _
    exact qG (zZ true) ((uZ (β := Unit) D _ _ (fun _ => yY f s (List.range' i (j + 1 - i)))).putObj (s := ()) _ hYd (zC _) hYD rfl) (qM _ _) (fun b h _ => zD qC h.1)
   ·exact hYb.trans (belowK_b (w := w) (zC _) Y D _ _ qC hYD rfl rfl)
 case stop =>
  rintro D c pre W _ _ h _;exact h.elim
set_option maxRecDepth 100000 in
theorem zGs (Bk : Nat) (kind : Int) (l : Lin) (la ca : Option Addr) (lc cc : Nat) (w w0 : World) (S : Nat → Prop) (hkk : 0 ≤ kind ∧ kind ≤ 3) (hk : w.heap[Bk]? = some (.cells #[.int .i64 kind] 3)) (hL : jI false w0 S (.slice la l.lists.length lc) l.lists) (hC : jC false w0 S (.slice ca l.cells.length cc) l.cells) (h0 : Below w0.heap.size w0 w)
  (he : EnvT w) (hs : l.lists.length ≤ 1000000 ∧ l.cells.length ≤ 1000000) (hh : ∀ c ∈ l.cells, c.href.length ≤ 1000000) (hm : mayL l = true) :
  Calls zV 194 #[linV l (.slice la l.lists.length lc) (.slice ca l.cells.length cc), .pointer (some ⟨Bk, 0, none⟩)] w (yT w (xS kind l)) := by
 obtain ⟨W1, hW1, hB, hz, hA1, hA2⟩ := uS w (.int .i64 l.quote) (.slice la l.lists.length lc) (.int .i64 l.kind) (.slice ca l.cells.length cc) (.int .i64 0) (.slice none 0 0) (.int .i64 0) (.slice none 0 0);have HT := zA (zGo kind l la ca lc cc W1 w0 S hkk hL hC (zW h0 hB) (he.below hB) hs hh hm);have hs1 := hB.size;have hk1 := zX hB hk;have HB0 : Hid (∀ W, Below W1.heap.size W1 W → W.heap[w.heap.size]? = some (.cells #[.int .i64 l.quote, .slice la l.lists.length lc, .int .i64 l.kind, .slice ca l.cells.length cc] 47) ∧ W.heap[w.heap.size + 1]? = some (.cells #[.int .i64 0, .slice none 0 0, .int .i64 0, .slice none 0 0] 47)) := zA fun W hW => ⟨zX hW hA1, zX hW hA2⟩;have H1 := zA hB;obtain ⟨p0, f0⟩ := blk hk1;obtain ⟨p1, f1⟩ := blk hA1;obtain ⟨p2, f2⟩ := blk hA2;obtain ⟨r, hr⟩ : ∃ r, xS kind l = r := ⟨_, rfl⟩;rw [hr] at HT ⊢;clear hL hC hs hB h0 hr hm he hk hk1;unfold linV at HT ⊢;cases r with
 | none =>
  go_enter Tryz.func194, Tryz.ntmps194;go_wp2_with (go_at_call 195; refine HT.out.mono ?_; rintro e w2 ⟨_, he2, hb2⟩; obtain rfl := he2 rfl; obtain ⟨hA3, hA4⟩ := HB0.out _ hb2; obtain ⟨q0, g0⟩ := blk hA3; obtain ⟨q1, g1⟩ := blk hA4);refine zM (kY rfl _ _ (w.heap.size + 1) (.int .i64 0) (.slice none 0 0) (.int .i64 0) (.slice none 0 0) rfl zAh) rfl ?_;refine ⟨fun l' h => kN, fun _ => rfl, ?_⟩;have := H1.out.trans (hb2.mono hs1)
  ((with_reducible repeat' first | exact zE _ _ | assumption | refine zG ?_ ?_ _ | refine zH ?_ | refine qQ ?_ | refine zF ?_ ?_ _) <;> go_size)
 | some l' =>
  go_enter Tryz.func194, Tryz.ntmps194;go_wp2_with (go_at_call 195; refine HT.out.mono ?_; rintro e w2 ⟨he2, _, hb2⟩; obtain ⟨a', b', rfl, ha', hb'⟩ := he2 _ rfl; obtain ⟨a1, c1, rfl⟩ := ha'.slice; obtain ⟨a2, c2, rfl⟩ := hb'.slice; obtain ⟨hA3, hA4⟩ := HB0.out _ hb2; obtain ⟨q0, g0⟩ := blk hA3; obtain ⟨q1, g1⟩ := blk hA4);refine zM (kY rfl _ _ (w.heap.size + 1) (.int .i64 l'.quote) (.slice a1 l'.lists.length c1) (.int .i64 l'.kind) (.slice a2 l'.cells.length c2) rfl zAh) rfl ?_;refine ⟨fun l'' h => ?_, fun h => kN, ?_⟩
  ·cases h
   exact ⟨_, _, rfl, (qG (qB _) ha' jM (fun b h _ => jJ)), (qG (qB _) hb' jM (fun b h _ => jJ))⟩
  ·have := H1.out.trans (hb2.mono hs1)
   ((with_reducible repeat' first | exact zE _ _ | assumption | refine zG ?_ ?_ _ | refine zH ?_ | refine qQ ?_ | refine zF ?_ ?_ _) <;> go_size)
set_option maxRecDepth 100000 in
theorem zHq (Bk : Nat) (kind : Int) (l : Lin) (la ca : Option Addr) (lc cc : Nat) (w w0 : World) (S : Nat → Prop) (hkk : kind = 0 ∨ kind = 1) (hk : w.heap[Bk]? = some (.cells #[.int .i64 kind] 3)) (hL : jI false w0 S (.slice la l.lists.length lc) l.lists) (hC : jC false w0 S (.slice ca l.cells.length cc) l.cells) (h0 : Below w0.heap.size w0 w)
  (he : EnvT w) (hs : l.lists.length ≤ 1000000 ∧ l.cells.length ≤ 1000000) (hh : ∀ c ∈ l.cells, c.href.length ≤ 1000000) (hm : mayL l = true) :
  Calls zV 198 #[linV l (.slice la l.lists.length lc) (.slice ca l.cells.length cc), .pointer (some ⟨Bk, 0, none⟩)] w (yT w (xO kind l)) := by
 obtain ⟨W1, hW1, hB, hz, hA1, hA2⟩ := uS w (.int .i64 l.quote) (.slice la l.lists.length lc) (.int .i64 l.kind) (.slice ca l.cells.length cc) (.int .i64 0) (.slice none 0 0) (.int .i64 0) (.slice none 0 0);have HT := zA (zHd kind l la ca lc cc W1 w0 S hkk hL hC (zW h0 hB) (he.below hB) hs hh hm);have hs1 := hB.size;have hk1 := zX hB hk;have HB0 : Hid (∀ W, Below W1.heap.size W1 W → W.heap[w.heap.size]? = some (.cells #[.int .i64 l.quote, .slice la l.lists.length lc, .int .i64 l.kind, .slice ca l.cells.length cc] 47) ∧ W.heap[w.heap.size + 1]? = some (.cells #[.int .i64 0, .slice none 0 0, .int .i64 0, .slice none 0 0] 47)) := zA fun W hW => ⟨zX hW hA1, zX hW hA2⟩;have H1 := zA hB;obtain ⟨p0, f0⟩ := blk hk1;obtain ⟨p1, f1⟩ := blk hA1;obtain ⟨p2, f2⟩ := blk hA2;obtain ⟨r, hr⟩ : ∃ r, xO kind l = r := ⟨_, rfl⟩;rw [hr] at HT ⊢;clear hL hC hs hB h0 hr hm he hk hk1;unfold linV at HT ⊢;cases r with
 | none =>
  go_enter Tryz.func198, Tryz.ntmps198;go_wp2_with (go_at_call 199; refine HT.out.mono ?_; rintro e w2 ⟨_, he2, hb2⟩; obtain rfl := he2 rfl; obtain ⟨hA3, hA4⟩ := HB0.out _ hb2; obtain ⟨q0, g0⟩ := blk hA3; obtain ⟨q1, g1⟩ := blk hA4);refine zM (kY rfl _ _ (w.heap.size + 1) (.int .i64 0) (.slice none 0 0) (.int .i64 0) (.slice none 0 0) rfl zAh) rfl ?_;refine ⟨fun l' h => kN, fun _ => rfl, ?_⟩;have := H1.out.trans (hb2.mono hs1)
  ((with_reducible repeat' first | exact zE _ _ | assumption | refine zG ?_ ?_ _ | refine zH ?_ | refine qQ ?_ | refine zF ?_ ?_ _) <;> go_size)
 | some l' =>
  go_enter Tryz.func198, Tryz.ntmps198;go_wp2_with (go_at_call 199; refine HT.out.mono ?_; rintro e w2 ⟨he2, _, hb2⟩; obtain ⟨a', b', rfl, ha', hb'⟩ := he2 _ rfl; obtain ⟨a1, c1, rfl⟩ := ha'.slice; obtain ⟨a2, c2, rfl⟩ := hb'.slice; obtain ⟨hA3, hA4⟩ := HB0.out _ hb2; obtain ⟨q0, g0⟩ := blk hA3; obtain ⟨q1, g1⟩ := blk hA4);refine zM (kY rfl _ _ (w.heap.size + 1) (.int .i64 l'.quote) (.slice a1 l'.lists.length c1) (.int .i64 l'.kind) (.slice a2 l'.cells.length c2) rfl zAh) rfl ?_;refine ⟨fun l'' h => ?_, fun h => kN, ?_⟩
  ·cases h
   exact ⟨_, _, rfl, (qG (qB _) ha' jM (fun b h _ => jJ)), (qG (qB _) hb' jM (fun b h _ => jJ))⟩
  ·have := H1.out.trans (hb2.mono hs1)
   ((with_reducible repeat' first | exact zE _ _ | assumption | refine zG ?_ ?_ _ | refine zH ?_ | refine qQ ?_ | refine zF ?_ ?_ _) <;> go_size)
set_option maxRecDepth 100000 in
theorem zGI (v : Value) (s : St) (w : World) (S : Nat → Prop) (h : jE w S v s.lines) (he : EnvT w) (hs : Small s.lines) (hf : Fits s.lines) :
  Calls zV 78 #[stV v s] w (StSaid (kD vB s) w) := by
 obtain ⟨W1, hW1, hB, hz, k0, k2⟩ := xE w v s;have HB : Hid (∀ W, Below W1.heap.size W1 W → W.heap[w.heap.size]? = some (.cells #[v, .int .i64 s.anc.line, .int .i64 s.anc.col, .int .i64 s.foc.line, .int .i64 s.foc.col, .int .i64 s.on, .int .i64 s.off] 26) ∧ W.heap[w.heap.size + 1]? = some (.cells #[.slice none 0 0, .int .i64 0, .int .i64 0, .int .i64 0, .int .i64 0, .int .i64 0, .int .i64 0] 26)) := zA fun W hW => ⟨zX hW k0, zX hW k2⟩;have hs1 := hB.size;have H1 := zA hB
 have HC := zA (zBd v s 135 #[] vB W1 S (h.below (zZ _) hB) (he.below hB) hs hf (enters_of Tryz.func135 zT rfl)
  (fun W l la ca lc cc hW hl hm hL hC => zGn l la ca lc cc W W1 S hL hC hW ((he.below hB).below hW) (hf.2 l hl) (hs.2.2 l hl) hm))
 obtain ⟨X, hX⟩ : ∃ X, kD vB s = X := ⟨_, rfl⟩;rw [hX] at HC ⊢;obtain ⟨p0, f0⟩ := blk k0;obtain ⟨p1, f1⟩ := blk k2;obtain ⟨va, vc, rfl⟩ := h.slice;clear h he hs hf hB hX k0 k2;go_enter Tryz.func78, Tryz.ntmps78;go_wp2_with (go_at_call 134; refine HC.out.mono ?_; rintro e w2 ⟨v2, rfl, hv2, hb2⟩; obtain ⟨a2, c2, rfl⟩ := hv2.slice; obtain ⟨q0, g0⟩ := blk (HB.out _ hb2).1; obtain ⟨q1, g1⟩ := blk (HB.out _ hb2).2; have HV := zA hv2; clear hv2);refine zM (jQ rfl _ _ (w.heap.size + 1) (.slice a2 X.1.lines.length c2) (.int .i64 X.1.anc.line) (.int .i64 X.1.anc.col) (.int .i64 X.1.foc.line) (.int .i64 X.1.foc.col) (.int .i64 X.1.on) (.int .i64 X.1.off) (.int .i64 X.2) rfl rfl yL) rfl ?_;have hfin := H1.out.trans (hb2.mono hs1);have hv2 := HV.out;exact ⟨_, rfl, (qG (zZ _) hv2 jM (fun b h _ => jJ)), by ((with_reducible repeat' first | exact zE _ _ | assumption | refine zG ?_ ?_ _ | refine zH ?_ | refine qQ ?_ | refine zF ?_ ?_ _) <;> go_size)⟩
set_option maxRecDepth 100000 in
theorem zGq (v : Value) (s : St) (w : World) (S : Nat → Prop) (h : jE w S v s.lines) (he : EnvT w) (hs : Small s.lines) (hf : Fits s.lines) :
  Calls zV 79 #[stV v s] w (StSaid (kD kO s) w) := by
 obtain ⟨W1, hW1, hB, hz, k0, k2⟩ := xE w v s;have HB : Hid (∀ W, Below W1.heap.size W1 W → W.heap[w.heap.size]? = some (.cells #[v, .int .i64 s.anc.line, .int .i64 s.anc.col, .int .i64 s.foc.line, .int .i64 s.foc.col, .int .i64 s.on, .int .i64 s.off] 26) ∧ W.heap[w.heap.size + 1]? = some (.cells #[.slice none 0 0, .int .i64 0, .int .i64 0, .int .i64 0, .int .i64 0, .int .i64 0, .int .i64 0] 26)) := zA fun W hW => ⟨zX hW k0, zX hW k2⟩;have hs1 := hB.size;have H1 := zA hB
 have HC := zA (zBd v s 115 #[] kO W1 S (h.below (zZ _) hB) (he.below hB) hs hf (enters_of Tryz.func115 zT rfl)
  (fun W l la ca lc cc hW hl hm hL hC => zCs l la ca lc cc W W1 S hL hC hW ((he.below hB).below hW) (hf.2 l hl) (hs.2.2 l hl) hm))
 obtain ⟨X, hX⟩ : ∃ X, kD kO s = X := ⟨_, rfl⟩;rw [hX] at HC ⊢;obtain ⟨p0, f0⟩ := blk k0;obtain ⟨p1, f1⟩ := blk k2;obtain ⟨va, vc, rfl⟩ := h.slice;clear h he hs hf hB hX k0 k2;go_enter Tryz.func79, Tryz.ntmps79;go_wp2_with (go_at_call 134; refine HC.out.mono ?_; rintro e w2 ⟨v2, rfl, hv2, hb2⟩; obtain ⟨a2, c2, rfl⟩ := hv2.slice; obtain ⟨q0, g0⟩ := blk (HB.out _ hb2).1; obtain ⟨q1, g1⟩ := blk (HB.out _ hb2).2; have HV := zA hv2; clear hv2);refine zM (jQ rfl _ _ (w.heap.size + 1) (.slice a2 X.1.lines.length c2) (.int .i64 X.1.anc.line) (.int .i64 X.1.anc.col) (.int .i64 X.1.foc.line) (.int .i64 X.1.foc.col) (.int .i64 X.1.on) (.int .i64 X.1.off) (.int .i64 X.2) rfl rfl yL) rfl ?_;have hfin := H1.out.trans (hb2.mono hs1);have hv2 := HV.out;exact ⟨_, rfl, (qG (zZ _) hv2 jM (fun b h _ => jJ)), by ((with_reducible repeat' first | exact zE _ _ | assumption | refine zG ?_ ?_ _ | refine zH ?_ | refine qQ ?_ | refine zF ?_ ?_ _) <;> go_size)⟩
theorem zEt (w : World) (v : Value) (s : St) (k : Int) : ∃ W1, ((w.alloc (.cells #[v, .int .i64 s.anc.line, .int .i64 s.anc.col, .int .i64 s.foc.line, .int .i64 s.foc.col, .int .i64 s.on, .int .i64 s.off] 26)).alloc (.cells #[.int .i64 k] 3)).alloc (.cells #[.slice none 0 0, .int .i64 0, .int .i64 0, .int .i64 0, .int .i64 0, .int .i64 0, .int .i64 0] 26) = W1 ∧ Below w.heap.size w W1 ∧ w.heap.size + 3 = W1.heap.size ∧
  W1.heap[w.heap.size]? = some (.cells #[v, .int .i64 s.anc.line, .int .i64 s.anc.col, .int .i64 s.foc.line, .int .i64 s.foc.col, .int .i64 s.on, .int .i64 s.off] 26) ∧ W1.heap[w.heap.size + 1]? = some (.cells #[.int .i64 k] 3) ∧ W1.heap[w.heap.size + 2]? = some (.cells #[.slice none 0 0, .int .i64 0, .int .i64 0, .int .i64 0, .int .i64 0, .int .i64 0, .int .i64 0] 26) :=
 ⟨_, rfl, (((zE _ _).alloc (zC _) _).alloc qE _).alloc jB _, by simp, zY _ _ (zY _ _ (qF _ _ rfl)), zY _ _ (qF _ _ qE), qF _ _ qE⟩
set_option maxRecDepth 100000 in
theorem zBD (v : Value) (s : St) (k : Int) (w : World) (S : Nat → Prop) (h : jE w S v s.lines) (he : EnvT w) (hs : Small s.lines) (hf : Fits s.lines) :
  Calls zV 133 #[stV v s, .int .i64 k] w (StSaid (yE k s) w) := by
 obtain ⟨W1, hW1, hB, hz, k0, k1, k2⟩ := zEt w v s k;have HB : Hid (∀ W, Below W1.heap.size W1 W → W.heap[w.heap.size]? = some (.cells #[v, .int .i64 s.anc.line, .int .i64 s.anc.col, .int .i64 s.foc.line, .int .i64 s.foc.col, .int .i64 s.on, .int .i64 s.off] 26) ∧ W.heap[w.heap.size + 2]? = some (.cells #[.slice none 0 0, .int .i64 0, .int .i64 0, .int .i64 0, .int .i64 0, .int .i64 0, .int .i64 0] 26)) := zA fun W hW => ⟨zX hW k0, zX hW k2⟩;have hs1 := hB.size;have H1 := zA hB
 have HC : Hid (0 ≤ k ∧ k ≤ 3 → Calls zV 134 #[stV v s, .func (.func 194) #[] #[.pointer (some ⟨w.heap.size + 1, 0, none⟩)]] W1 (StSaid (kD (xS k) s) W1)) := zA fun hk => zBd v s 194 #[.pointer (some ⟨w.heap.size + 1, 0, none⟩)] (xS k) W1 S (h.below (zZ _) hB) (he.below hB) hs hf (enters_of Tryz.func194 zT rfl)
  (fun W l la ca lc cc hW hl hm hL hC => zGs (w.heap.size + 1) k l la ca lc cc W W1 S hk (zX hW k1) hL hC hW ((he.below hB).below hW) (hf.2 l hl) (hs.2.2 l hl) hm)
 have HR := zA (show yE k s = if k < 0 ∨ 3 < k then (noS, 1) else kD (xS k) s from rfl);obtain ⟨p0, f0⟩ := blk k0;obtain ⟨p1, f1⟩ := blk k1;obtain ⟨p2, f2⟩ := blk k2;obtain ⟨va, vc, rfl⟩ := h.slice;have HK2 := zA k2;clear h he hs hf hB k0 k1 k2;rcases (show k < 0 ∨ (¬ k < 0 ∧ 3 < k) ∨ (¬ k < 0 ∧ ¬ 3 < k) by omega) with hk | ⟨hk, hk3⟩ | ⟨hk, hk3⟩
 ·have HR : Hid (yE k s = (noS, 1)) := zA (HR.out.trans (if_pos (.inl hk)))
  go_enter Tryz.func133, Tryz.ntmps133;go_wp2_with fail;refine zM (jQ rfl _ _ (w.heap.size + 2) (.slice none 0 0) (.int .i64 0) (.int .i64 0) (.int .i64 0) (.int .i64 0) (.int .i64 0) (.int .i64 0) (.int .i64 1) rfl rfl (by simp [qR, qW, HK2.out])) rfl ?_;unfold StSaid;rw [HR.out];have hfin := H1.out;exact ⟨_, rfl, SliceR.nil _ _ _ _ _ _, by ((with_reducible repeat' first | exact zE _ _ | assumption | refine zG ?_ ?_ _ | refine zH ?_ | refine qQ ?_ | refine zF ?_ ?_ _) <;> go_size)⟩
 ·have HR : Hid (yE k s = (noS, 1)) := zA (HR.out.trans (if_pos (.inr hk3)))
  go_enter Tryz.func133, Tryz.ntmps133;go_wp2_with fail;refine zM (jQ rfl _ _ (w.heap.size + 2) (.slice none 0 0) (.int .i64 0) (.int .i64 0) (.int .i64 0) (.int .i64 0) (.int .i64 0) (.int .i64 0) (.int .i64 1) rfl rfl (by simp [qR, qW, HK2.out])) rfl ?_;unfold StSaid;rw [HR.out];have hfin := H1.out;exact ⟨_, rfl, SliceR.nil _ _ _ _ _ _, by ((with_reducible repeat' first | exact zE _ _ | assumption | refine zG ?_ ?_ _ | refine zH ?_ | refine qQ ?_ | refine zF ?_ ?_ _) <;> go_size)⟩
 ·have HR : Hid (yE k s = kD (xS k) s) := zA (HR.out.trans (if_neg (fun e => e.elim hk hk3)))
  have HC := zA (HC.out ⟨by omega, by omega⟩);obtain ⟨X, hX⟩ : ∃ X, kD (xS k) s = X := ⟨_, rfl⟩;rw [hX] at HC HR;rw [HR.out];clear hX HR;go_enter Tryz.func133, Tryz.ntmps133;go_wp2_with (go_at_call 134; refine HC.out.mono ?_; rintro e w2 ⟨v2, rfl, hv2, hb2⟩; obtain ⟨a2, c2, rfl⟩ := hv2.slice; obtain ⟨q0, g0⟩ := blk (HB.out _ hb2).1; obtain ⟨q1, g1⟩ := blk (HB.out _ hb2).2; have HV := zA hv2; clear hv2);refine zM (jQ rfl _ _ (w.heap.size + 2) (.slice a2 X.1.lines.length c2) (.int .i64 X.1.anc.line) (.int .i64 X.1.anc.col) (.int .i64 X.1.foc.line) (.int .i64 X.1.foc.col) (.int .i64 X.1.on) (.int .i64 X.1.off) (.int .i64 X.2) rfl rfl yL) rfl ?_;have hfin := H1.out.trans (hb2.mono hs1);have hv2 := HV.out;exact ⟨_, rfl, (qG (zZ _) hv2 jM (fun b h _ => jJ)), by ((with_reducible repeat' first | exact zE _ _ | assumption | refine zG ?_ ?_ _ | refine zH ?_ | refine qQ ?_ | refine zF ?_ ?_ _) <;> go_size)⟩
theorem zEw {fn : Func} {p u : Tmp} (h : fn.results = #[.cell p 4, .cell u 4]) (tmps : Array Value) (w : World) (a b : Addr) (x y : Bool) (hp : tmps.getD p undef = .pointer (some a)) (hu : tmps.getD u undef = .pointer (some b)) (h1 : w.cell? a = some (.bool x)) (h2 : w.cell? b = some (.bool y)) :
  (results fn tmps).run zV w = .ok (.tuple #[.bool x, .bool y]) w := by
 simp only [results, h];simp at hp hu;simp [go_sem, hp, hu, h1, h2]
theorem zCN {fn : Func} {p u : Tmp} (h : fn.results = #[.cell p 3, .cell u 4]) (tmps : Array Value) (w : World) (a b : Addr) (x : Int) (y : Bool) (hp : tmps.getD p undef = .pointer (some a)) (hu : tmps.getD u undef = .pointer (some b)) (h1 : w.cell? a = some (.int .i64 x)) (h2 : w.cell? b = some (.bool y)) :
  (results fn tmps).run zV w = .ok (.tuple #[.int .i64 x, .bool y]) w := by
 simp only [results, h];simp at hp hu;simp [go_sem, hp, hu, h1, h2]
theorem zGr (kind : Int) (l : Lin) (la ca : Option Addr) (lc cc : Nat) (w w0 : World) (S : Nat → Prop) (hL : jI false w0 S (.slice la l.lists.length lc) l.lists) (h0 : Below w0.heap.size w0 w) :
  Calls zV 83 #[linV l (.slice la l.lists.length lc) (.slice ca l.cells.length cc), .int .i64 kind] w fun e w' => e = .returned (.bool (kC kind l)) ∧ Below w.heap.size w w' := by
 obtain ⟨a, c, he, hc, hm, hx⟩ := zAz hL;cases he;unfold maxLen at hm;unfold linV
 by_cases hn : l.lists = []
 ·have HR : Hid (kC kind l = false) := zA (by unfold kC; simp [hn])
  have hl0 : ¬ (0 : Int) < ((l.lists.length : Nat) : Int) := by rw [hn]; decide
  have hl1 : ¬ 0 < l.lists.length := by rw [hn]; decide
  have hl2 : decide ((0 : Int) < ((l.lists.length : Nat) : Int)) = false := decide_eq_false hl0;clear hL hx hn;go_enter Tryz.func83, Tryz.ntmps83;go_wp2_with fail;go_ret;rw [HR.out];exact ⟨rfl, by ((with_reducible repeat' first | exact zE _ _ | assumption | refine zG ?_ ?_ _ | refine zH ?_ | refine qQ ?_ | refine zF ?_ ?_ _) <;> go_size)⟩
 ·obtain ⟨n, hnl⟩ : ∃ n, l.lists.length = n + 1 := ⟨l.lists.length - 1, by have := List.length_pos_iff.2 hn; omega⟩
  obtain ⟨x, hx0, _⟩ := jO l.lists n qC;obtain ⟨b, o, rfl, hz, c0⟩ := hx n x hx0
  have HR : Hid (kC kind l = (x == kind)) := zA (by
   unfold kC xB;rw [List.getLastD_eq_getLast?, List.getLast?_eq_getElem?, hnl, Nat.add_sub_cancel, hx0]
   by_cases e : x = kind <;> simp [hn, e])
  have hcw := (h0.cell (p := ⟨b, o + n, none⟩) hz).trans c0;have hbw : b < w.heap.size := Nat.lt_of_lt_of_le hz h0.size;have c1 := jP hcw;have hl0 : (0 : Int) < ((n + 1 : Nat) : Int) := by omega
  have hl2 : decide ((0 : Int) < ((n + 1 : Nat) : Int)) = true := decide_eq_true hl0;have e1 : IntKind.i64.wrap (((n + 1 : Nat) : Int) - 1) = (n : Int) := by rw [show (((n + 1 : Nat) : Int) - 1) = (n : Int) by omega]; exact IntWalk.i64_in _ qC
  have e2 : wrap64 (n : Int) = (n : Int) := IntWalk.wrap64_in _ qC;have i0 : (0 : Int) ≤ (n : Int) := zR _;have i1 : (n : Int) < ((n + 1 : Nat) : Int) := by omega
  rw [hnl];clear hL hx hx0 hnl hn c0;go_enter Tryz.func83, Tryz.ntmps83;go_wp2_with fail;go_ret;rw [HR.out];exact ⟨rfl, by ((with_reducible repeat' first | exact zE _ _ | assumption | refine zG ?_ ?_ _ | refine zH ?_ | refine qQ ?_ | refine zF ?_ ?_ _) <;> go_size)⟩
def LB {w0 : World} {S : Nat → Prop} {s : St} (kind : Int) (w : World) (Z : Nat) (pre : List (SelX w0 S s)) (W : World) : Prop :=
 W.heap[w.heap.size + 2]? = some (.cells #[.bool (pre.all fun x => kC kind x.l)] 4) ∧ W.heap[w.heap.size + 3]? = some (.cells #[.bool (pre.any fun x => kC kind x.l)] 4) ∧ W.heap[w.heap.size + 1]? = some (.cells #[.int .i64 kind] 3) ∧ Below w.heap.size w W ∧ Z ≤ W.heap.size
theorem zLh {w0 : World} {S : Nat → Prop} {s : St} {kind : Int} {w : World} {Z B : Nat} (hB : w.heap.size ≤ B) : OwnFrom B (LB (w0 := w0) (S := S) (s := s) kind w Z) :=
 OwnFrom.and (fun pre X _ _ hs hg hr => kZ (β := Unit) B _ _ _ () X _ _ hs hg hr) (OwnFrom.and (fun pre X _ _ hs hg hr => kZ (β := Unit) B _ _ _ () X _ _ hs hg hr) (OwnFrom.and (kZ _ _ _ _) (OwnFrom.and (ownFrom_below (zC _) hB) (uA _ _))))
theorem zGz (w : World) (v : Value) (s : St) (k : Int) : ∃ W1, (((w.alloc (.cells #[v, .int .i64 s.anc.line, .int .i64 s.anc.col, .int .i64 s.foc.line, .int .i64 s.foc.col, .int .i64 s.on, .int .i64 s.off] 26)).alloc (.cells #[.int .i64 k] 3)).alloc (.cells #[.bool false] 4)).alloc (.cells #[.bool false] 4) = W1 ∧ Below w.heap.size w W1 ∧ w.heap.size + 4 = W1.heap.size ∧
  W1.heap[w.heap.size]? = some (.cells #[v, .int .i64 s.anc.line, .int .i64 s.anc.col, .int .i64 s.foc.line, .int .i64 s.foc.col, .int .i64 s.on, .int .i64 s.off] 26) ∧ W1.heap[w.heap.size + 1]? = some (.cells #[.int .i64 k] 3) ∧ W1.heap[w.heap.size + 2]? = some (.cells #[.bool false] 4) ∧ W1.heap[w.heap.size + 3]? = some (.cells #[.bool false] 4) :=
 ⟨_, rfl, ((((zE _ _).alloc (zC _) _).alloc qE _).alloc jB _).alloc jB _, by simp, zY _ _ (zY _ _ (zY _ _ (qF _ _ rfl))), zY _ _ (zY _ _ (qF _ _ qE)), zY _ _ (qF _ _ qE), qF _ _ qE⟩
set_option maxRecDepth 200000 in
theorem zDO (v : Value) (s : St) (kind : Int) (w : World) (S : Nat → Prop) (h : jE w S v s.lines) (he : EnvT w) (hs : Small s.lines) :
  Calls zV 42 #[stV v s, .int .i64 kind] w fun e w' => e = .returned (.tuple #[.bool (xK kind s).1, .bool (xK kind s).2]) ∧ Below w.heap.size w w' := by
 obtain ⟨W1, hW1, hB, hz, k0, k1, k2, k3⟩ := zGz w v s kind;have HB : Hid (∀ W, Below W1.heap.size W1 W → W.heap[w.heap.size]? = some (.cells #[v, .int .i64 s.anc.line, .int .i64 s.anc.col, .int .i64 s.foc.line, .int .i64 s.foc.col, .int .i64 s.on, .int .i64 s.off] 26) ∧ W.heap[w.heap.size + 1]? = some (.cells #[.int .i64 kind] 3) ∧ W.heap[w.heap.size + 2]? = some (.cells #[.bool false] 4) ∧ W.heap[w.heap.size + 3]? = some (.cells #[.bool false] 4)) := zA fun W hW => ⟨zX hW k0, zX hW k1, zX hW k2, zX hW k3⟩;have hs1 := hB.size;have H1 := zA hB;have hw0 : Below W1.heap.size W1 W1 := zE _ _;have HM := zA (vQ v s W1 S (h.below (zZ _) hB) (he.below hB) hs);have HVF := zA (zB h hs);have HR := zA (show xK kind s = if mayS s = true then (yK (kC kind) s s.lines.length, xW (kC kind) s s.lines.length) else (false, false) from rfl);obtain ⟨p0, f0⟩ := blk k0;obtain ⟨p1, f1⟩ := blk k1;obtain ⟨p2, f2⟩ := blk k2;obtain ⟨p3, f3⟩ := blk k3;obtain ⟨va, vc, rfl⟩ := h.slice;have hm0 : Hid (mayS s = mayS s) := zA rfl;obtain ⟨m, hm⟩ : ∃ m, mayS s = m := ⟨_, rfl⟩;rw [hm] at HM HR;cases m
 ·have HR : Hid (xK kind s = (false, false)) := zA (HR.out.trans (if_neg qE))
  clear h he hs k0 k1 k2 k3 hB hm HVF;go_enter Tryz.func42, Tryz.ntmps42;go_wp2_with (go_at_call 27; refine HM.out.mono ?_; rintro e w2 ⟨rfl, hb2⟩; obtain ⟨q2, g2⟩ := blk (HB.out _ hb2).2.2.1; obtain ⟨q3, g3⟩ := blk (HB.out _ hb2).2.2.2; have HB2 := zA hb2);refine zM (zEw rfl _ _ ⟨w.heap.size + 1 + 1, 0, none⟩ ⟨w.heap.size + 1 + 1 + 1, 0, none⟩ false false rfl rfl ((kE (by show ¬ w.heap.size + 1 + 1 + 1 = w.heap.size + 1 + 1; omega)).trans (xY (q2 0))) (xY ((kE zDq).trans (q3 0)))) rfl ?_;rw [HR.out];have hfin := H1.out.trans (HB2.out.mono hs1);exact ⟨rfl, by ((with_reducible repeat' first | exact zE _ _ | assumption | refine zG ?_ ?_ _ | refine zH ?_ | refine qQ ?_ | refine zF ?_ ?_ _) <;> go_size)⟩
 rw [if_pos rfl] at HR;obtain ⟨i, j, hi, hj, hij, hjl⟩ := zBN hm;have HSI := zA (zB hi hj)
 have HR : Hid (xK kind s = ((List.range' i (j + 1 - i)).all fun k => kC kind (kA s k), (List.range' i (j + 1 - i)).any fun k => kC kind (kA s k))) := zA (by
  rw [HR.out, ← zFk hi hj hij hjl (kC kind), ← zFl hi hj hij hjl (kC kind)])
 clear h he hs k0 k1 k2 k3 hB hm hi hj;refine (callsIn_wide (n := 6)).1 ?_;refine callsIn_of_wp_marks Tryz.func42 rfl trivial ?_ rfl;simp only [Tryz.ntmps42, List.size_toArray, List.length_cons, List.length_nil, Nat.reduceAdd, Nat.reduceSub, Array.replicate_succ, Array.replicate_zero, List.push_toArray, List.append_toArray, List.nil_append, List.cons_append];have hwf : ∀ f, Fence.wide.fn f := fun _ => trivial;have hwd : Fence.wide.depth = none := rfl
 gi_wp2_with (first
  | (gi_at_call 27; refine (callsIn_wide.2 HM.out).mono ?_; rintro e w2 ⟨rfl, hb2⟩; obtain ⟨q0, g0⟩ := blk (HB.out _ hb2).1; obtain ⟨q2, g2⟩ := blk (HB.out _ hb2).2.2.1; obtain ⟨q3, g3⟩ := blk (HB.out _ hb2).2.2.2)
  | (gi_at_call 46; refine (callsIn_wide.2 (zCt _ _ _ s _)).mono ?_; rintro e w5 ⟨rfl, rfl⟩))
 obtain ⟨w6, hw6⟩ : ∃ w6, (w2.setCell ⟨w.heap.size + 1 + 1, 0, none⟩ (.bool true)).alloc (.cells #[.slice va s.lines.length vc, .int .i64 s.anc.line, .int .i64 s.anc.col, .int .i64 s.foc.line, .int .i64 s.foc.col, .int .i64 s.on, .int .i64 s.off] 26) = w6 := ⟨_, rfl⟩;rw [hw6];have hs2 := hb2.size;have hz6 : w6.heap.size = w2.heap.size + 1 := by rw [← hw6]; simp
 have m1 : w6.heap[w.heap.size + 2]? = some (.cells #[.bool true] 4) := hw6 ▸ zY _ _ (by rw [qR, if_pos rfl, (HB.out _ hb2).2.2.1]; rfl);have m2 : w6.heap[w.heap.size + 3]? = some (.cells #[.bool false] 4) := hw6 ▸ zY _ _ (by rw [qR, if_neg (by show ¬ w.heap.size + 1 + 1 = w.heap.size + 3; omega), (HB.out _ hb2).2.2.2]);have m3 : w6.heap[w.heap.size + 1]? = some (.cells #[.int .i64 kind] 3) := hw6 ▸ zY _ _ (by rw [qR, if_neg zAS, (HB.out _ hb2).2.1]);have m4 : w6.heap[w2.heap.size]? = some (.cells #[.slice va s.lines.length vc, .int .i64 s.anc.line, .int .i64 s.anc.col, .int .i64 s.foc.line, .int .i64 s.foc.col, .int .i64 s.on, .int .i64 s.off] 26) := hw6 ▸ qF _ _ qE;have hbw : Below w.heap.size w w6 := hw6 ▸ ((H1.out.trans (hb2.mono hs1)).setCell xC _).alloc jB _;have hLB : LB (w0 := w) (S := S) (s := s) kind w w6.heap.size [] w6 := ⟨m1, m2, m3, hbw, zC _⟩;have N2 := zA m4;have HBW := zA hbw;clear hw6 q0 g0 q2 g2 q3 g3 p0 f0 p1 f1 p2 f2 p3 f3 hW1 m1 m2 m3 m4
 refine zBa rfl qC (gf := 87) (lb := #[.pointer (some ⟨w2.heap.size, 0, none⟩)]) rfl trivial (enters_of Tryz.func87 zT rfl)
  (encs := zAc (w0 := w) (S := S) (s := s)) (n₀ := w.heap.size) (base := w2.heap.size) (S := fun ys => ys.map (·.i) = List.range' i (j + 1 - i)) (Sp := fun pre => pre.map (·.i) = List.range' i pre.length ∧ pre.length ≤ j + 1 - i) (N := 200000) (w0 := w6) ?seq qC (zE _ _) (fun _ => rfl)
  (LB kind w w6.heap.size) (fun _ _ _ => False) (zLh qC) (fun _ _ _ _ _ hs _ _ => hs) hLB (fun _ _ h => h.2.2.2.2)
  (fun x => #[.int .i64 x.l.quote, .slice x.la x.l.lists.length x.lc, .int .i64 x.l.kind, .slice x.ca x.l.cells.length x.cc]) 47 ?act ?assign ?body ?done ?stop
 case seq =>
  intro l J Jx W hW hJ _ hY h0;have hzW := hW.size;exact zDi 5 l w2.heap.size w2.heap.size (.slice va s.lines.length vc) s i j S w W J Jx HVF.out.1 (HBW.out.trans (hW.mono HBW.out.size)) (zC _) qC (zX hW N2.out) HSI.out.1 HSI.out.2 hij hjl HVF.out.2.2.1 hJ hY h0
 case assign =>
  intro l pre x W K Bx hBx hI hK;unfold zAc linV;rw [zDg];simp only [qI, qX, qY]
  repeat (first | go_values | gi_guarded | gi_step | gi_upon)
  rw [← hBx];exact hK
 case body =>
  intro l pre x Bx W hI hBx hbx hlt;obtain ⟨t0, t1, t2, hb, hz⟩ := hI;obtain ⟨k, ln, la, lc, ca, cc, row, hL, hC⟩ := x;obtain ⟨ra, hra⟩ : ∃ r, (pre.all fun x => kC kind x.l) = r := ⟨_, rfl⟩;obtain ⟨rs, hrs⟩ : ∃ r, (pre.any fun x => kC kind x.l) = r := ⟨_, rfl⟩;have hAll : ((pre ++ [(⟨k, ln, la, lc, ca, cc, row, hL, hC⟩ : SelX w S s)]).all fun x => kC kind x.l) = (ra && kC kind ln) := by simp [← hra]
  have hAny : ((pre ++ [(⟨k, ln, la, lc, ca, cc, row, hL, hC⟩ : SelX w S s)]).any fun x => kC kind x.l) = (rs || kC kind ln) := by simp [← hrs]
  rw [hra] at t0;rw [hrs] at t1;have HC := zA (zGr kind ln la ca lc cc W w S hL hb);obtain ⟨r, hr⟩ : ∃ r, kC kind ln = r := ⟨_, rfl⟩;rw [hr] at HC hAll hAny;have HAA := zA (zB hAll hAny);obtain ⟨s0, s0f⟩ := blk t0;obtain ⟨s1, s1f⟩ := blk t1;obtain ⟨s2, s2f⟩ := blk t2;obtain ⟨sx, sxf⟩ := blk hbx;have HIN := zA (zB t0 (zB t1 (zB t2 (zB hb hz))));have hzW := hb.size;unfold linV at HC;clear t0 t1 t2 hb hAll hAny hbx hra hrs hr;simp only at s0 sx ⊢;cases ra <;> cases rs
  all_goals gi_wp2_with (gi_at_call 83; refine (callsIn_wide.2 HC.out).mono ?_; rintro e w7 ⟨rfl, hb7⟩; have HB7 := zA hb7; obtain ⟨y0, y0f⟩ := blk (zX hb7 HIN.out.1); obtain ⟨y1, y1f⟩ := blk (zX hb7 HIN.out.2.1); clear s0 s0f s1 s1f s2 s2f sx sxf)
  all_goals
   have hb7 := HB7.out;have hz7 := hb7.size;refine ⟨((vI hb7).trans ((KeepsOthers.setCell _ _ _).trans (KeepsOthers.setCell _ _ _))).from _, (Kp.of_below qC hb7).t ((Kp.setCell _ qC qC _).t (Kp.setCell _ qC qC _)), ?_, ?_, ?_, ((zW HIN.out.2.2.2.1 hb7).setCell xC _).setCell zDt _, by have := HIN.out.2.2.2.2; simp; omega⟩
   ·rw [HAA.out.1, qR, if_neg (by show ¬ w.heap.size + 1 + 1 + 1 = w.heap.size + 2; omega), qR, if_pos rfl, zX hb7 HIN.out.1]
    simp [qW]
   ·rw [HAA.out.2, qR, if_pos rfl, qR, if_neg zDq]
    have := zX hb7 HIN.out.2.1;simp [qW, this]
   ·rw [qR, if_neg (by show ¬ w.heap.size + 1 + 1 + 1 = w.heap.size + 1; omega), qR, if_neg zAS]
    exact zX hb7 HIN.out.2.2.1
 case done =>
  rintro D ys W hD hys ⟨t0, t1, t2, hb, hz⟩ hK;have hl : ∀ x : SelX w S s, kA s x.i = x.l := fun x => by unfold kA; rw [List.getD_eq_getElem?_getD, x.row]; rfl
  have hAll : (ys.all fun x => kC kind x.l) = ((List.range' i (j + 1 - i)).all fun k => kC kind (kA s k)) := by
   rw [← hys, List.all_map];refine congrArg (List.all ys) (funext fun x => ?_)
   show _ = kC kind (kA s x.i)
   rw [hl]
  have hAny : (ys.any fun x => kC kind x.l) = ((List.range' i (j + 1 - i)).any fun k => kC kind (kA s k)) := by
   rw [← hys, List.any_map];refine congrArg (List.any ys) (funext fun x => ?_)
   show _ = kC kind (kA s x.i)
   rw [hl]
  rw [hAll] at t0;rw [hAny] at t1;obtain ⟨ra, hra⟩ : ∃ r, ((List.range' i (j + 1 - i)).all fun k => kC kind (kA s k)) = r := ⟨_, rfl⟩;obtain ⟨rs, hrs⟩ : ∃ r, ((List.range' i (j + 1 - i)).any fun k => kC kind (kA s k)) = r := ⟨_, rfl⟩;rw [hra] at t0 HR;rw [hrs] at t1 HR;have HB9 := zA hb;have HK9 := zA hK;have HT := zA (zB t0 t1);obtain ⟨s0, s0f⟩ := blk t0;obtain ⟨s1, s1f⟩ := blk t1;clear t0 t1 t2 hb hK hAll hAny hra hrs
  gi_wp2_with fail
  gi_region
  gi_wp2_with fail
  have hBE : Below w.heap.size w (((W.setCell ⟨w.heap.size + 1 + 1, 0, none⟩ (.bool ra)).setCell ⟨w.heap.size + 1 + 1 + 1, 0, none⟩ (.bool rs)).drew) := ((HB9.out.setCell xC _).setCell zDt _).drew
  have hK2 : (((W.setCell ⟨w.heap.size + 1 + 1, 0, none⟩ (.bool ra)).setCell ⟨w.heap.size + 1 + 1 + 1, 0, none⟩ (.bool rs)).drew).heap[D]? = some (.deferred (some [])) := by
   rw [zCP, qR, if_neg (by show ¬ w.heap.size + 1 + 1 + 1 = D; omega), qR, if_neg (by show ¬ w.heap.size + 1 + 1 = D; omega)];exact HK9.out
  have r1 : ((W.setCell ⟨w.heap.size + 1 + 1, 0, none⟩ (.bool ra)).setCell ⟨w.heap.size + 1 + 1 + 1, 0, none⟩ (.bool rs)).cell? ⟨w.heap.size + 1 + 1, 0, none⟩ = some (.bool ra) := (kE (by show ¬ w.heap.size + 1 + 1 + 1 = w.heap.size + 1 + 1; omega)).trans (xY (s0 0));have r2 : ((W.setCell ⟨w.heap.size + 1 + 1, 0, none⟩ (.bool ra)).setCell ⟨w.heap.size + 1 + 1 + 1, 0, none⟩ (.bool rs)).cell? ⟨w.heap.size + 1 + 1 + 1, 0, none⟩ = some (.bool rs) := xY ((kE zDq).trans (s1 0))
  generalize ((W.setCell ⟨w.heap.size + 1 + 1, 0, none⟩ (.bool ra)).setCell ⟨w.heap.size + 1 + 1 + 1, 0, none⟩ (.bool rs)) = Y at *
  refine ⟨by simp, .inl ⟨_, _, rfl, run_takeDeferred hK2, ?_⟩⟩;refine ⟨_, zEw rfl _ _ ⟨w.heap.size + 1 + 1, 0, none⟩ ⟨w.heap.size + 1 + 1 + 1, 0, none⟩ ra rs rfl rfl ((World.cell?_of_block (World.putObj_heap_other (by show w.heap.size + 1 + 1 ≠ D; omega))).trans r1) ((World.cell?_of_block (World.putObj_heap_other (by show w.heap.size + 1 + 1 + 1 ≠ D; omega))).trans r2), ?_⟩;rw [HR.out];exact ⟨rfl, hBE.trans (belowK_b (w := w) (zC _) _ D _ _ qC hK2 rfl rfl)⟩
 case stop =>
  rintro D c pre W _ _ h _;exact h.elim
set_option maxRecDepth 100000 in
theorem zIc (v : Value) (s : St) (k : Int) (w : World) (S : Nat → Prop) (h : jE w S v s.lines) (he : EnvT w) (hs : Small s.lines) (hf : Fits s.lines) :
  Calls zV 137 #[stV v s, .int .i64 k] w (StSaid (uL k s) w) := by
 obtain ⟨W1, hW1, hB, hz, k0, k1, k2⟩ := zEt w v s k;have HB : Hid (∀ W, Below W1.heap.size W1 W → W.heap[w.heap.size]? = some (.cells #[v, .int .i64 s.anc.line, .int .i64 s.anc.col, .int .i64 s.foc.line, .int .i64 s.foc.col, .int .i64 s.on, .int .i64 s.off] 26) ∧ W.heap[w.heap.size + 2]? = some (.cells #[.slice none 0 0, .int .i64 0, .int .i64 0, .int .i64 0, .int .i64 0, .int .i64 0, .int .i64 0] 26) ∧ W.heap[w.heap.size + 1]? = some (.cells #[.int .i64 k] 3)) := zA fun W hW => ⟨zX hW k0, zX hW k2, zX hW k1⟩;have hs1 := hB.size;have H1 := zA hB;have HLd := zA (zDO v s k W1 S (h.below (zZ _) hB) (he.below hB) hs)
 have HO : Hid (∀ W, Below W1.heap.size W1 W → Calls zV 134 #[stV v s, .func (.func 115) #[] #[]] W (StSaid (kD kO s) W)) := zA fun W hW => zBd v s 115 #[] kO W S ((h.below (zZ _) hB).below (zZ _) hW) ((he.below hB).below hW) hs hf (enters_of Tryz.func115 zT rfl)
  (fun W' l la ca lc cc hW' hl hm hL hC => zCs l la ca lc cc W' W S hL hC hW' (((he.below hB).below hW).below hW') (hf.2 l hl) (hs.2.2 l hl) hm)
 have HC : Hid (k = 0 ∨ k = 1 → ∀ W, Below W1.heap.size W1 W → Calls zV 134 #[stV v s, .func (.func 198) #[] #[.pointer (some ⟨w.heap.size + 1, 0, none⟩)]] W (StSaid (kD (xO k) s) W)) := zA fun hk W hW => zBd v s 198 #[.pointer (some ⟨w.heap.size + 1, 0, none⟩)] (xO k) W S ((h.below (zZ _) hB).below (zZ _) hW) ((he.below hB).below hW) hs hf (enters_of Tryz.func198 zT rfl)
  (fun W' l la ca lc cc hW' hl hm hL hC => zHq (w.heap.size + 1) k l la ca lc cc W' W S hk (zX (hW.trans (hW'.mono hW.size)) k1) hL hC hW' (((he.below hB).below hW).below hW') (hf.2 l hl) (hs.2.2 l hl) hm)
 have HR := zA (show uL k s = if k ≠ 0 ∧ k ≠ 1 then (noS, 1) else if (xK k s).1 = true then kD kO s else kD (xO k) s from rfl);obtain ⟨p0, f0⟩ := blk k0;obtain ⟨p1, f1⟩ := blk k1;obtain ⟨p2, f2⟩ := blk k2;obtain ⟨va, vc, rfl⟩ := h.slice;clear h he hs hf hB k0 k1 k2;obtain ⟨al, hal⟩ : ∃ x, (xK k s).1 = x := ⟨_, rfl⟩;obtain ⟨so, hso⟩ : ∃ x, (xK k s).2 = x := ⟨_, rfl⟩;rw [hal] at HLd HR;rw [hso] at HLd;clear hal hso;rcases (show (k ≠ 0 ∧ k ≠ 1) ∨ (k = 0 ∨ k = 1) by omega) with ⟨hk0, hk1⟩ | hk
 ·have HR : Hid (uL k s = (noS, 1)) := zA (HR.out.trans (if_pos ⟨hk0, hk1⟩))
  have d0 : (k != 0) = true := by simp [hk0]
  have d1 : (k != 1) = true := by simp [hk1]
  go_enter Tryz.func137, Tryz.ntmps137;go_wp2_with (go_at_call 42; refine HLd.out.mono ?_; rintro e w2 ⟨rfl, hb2⟩; obtain ⟨q0, g0⟩ := blk (HB.out _ hb2).1; obtain ⟨q1, g1⟩ := blk (HB.out _ hb2).2.1; obtain ⟨q2, g2⟩ := blk (HB.out _ hb2).2.2; have HB2 := zA hb2);refine zM (jQ rfl _ _ (w.heap.size + 2) (.slice none 0 0) (.int .i64 0) (.int .i64 0) (.int .i64 0) (.int .i64 0) (.int .i64 0) (.int .i64 0) (.int .i64 1) rfl rfl (by simp [qR, qW, (HB.out _ HB2.out).2.1])) rfl ?_;unfold StSaid;rw [HR.out];have hfin := H1.out.trans (HB2.out.mono hs1);exact ⟨_, rfl, SliceR.nil _ _ _ _ _ _, by ((with_reducible repeat' first | exact zE _ _ | assumption | refine zG ?_ ?_ _ | refine zH ?_ | refine qQ ?_ | refine zF ?_ ?_ _) <;> go_size)⟩
 ·have HR : Hid (uL k s = if al = true then kD kO s else kD (xO k) s) := zA (HR.out.trans (if_neg (fun h => by omega)))
  have HC := zA (HC.out hk);have d0 : (k != 0) = false ∨ ((k != 0) = true ∧ (k != 1) = false) := by rcases hk with rfl | rfl <;> simp
  clear hk;have HR1 : Hid (al = true → uL k s = kD kO s) := zA fun e => by rw [HR.out, e]; rfl
  obtain ⟨X1, hX1⟩ : ∃ X, kD kO s = X := ⟨_, rfl⟩;rw [hX1] at HO HR1;have HR2 : Hid (al = false → uL k s = kD (xO k) s) := zA fun e => by rw [HR.out, e]; rfl
  obtain ⟨X2, hX2⟩ : ∃ X, kD (xO k) s = X := ⟨_, rfl⟩;rw [hX2] at HC HR2;clear HR hX1 hX2;cases al
  ·have HR := zA (HR2.out rfl)
   rw [HR.out];rcases d0 with d0 | ⟨d0, d1⟩
   all_goals
    go_enter Tryz.func137, Tryz.ntmps137
    go_wp2_with (first
     | (go_at_call 42; refine HLd.out.mono ?_; rintro e w2 ⟨rfl, hb2⟩; obtain ⟨q0, g0⟩ := blk (HB.out _ hb2).1; obtain ⟨q1, g1⟩ := blk (HB.out _ hb2).2.1; obtain ⟨q2, g2⟩ := blk (HB.out _ hb2).2.2)
     | (go_at_call 134; refine (HC.out _ hb2).mono ?_; rintro e w3 ⟨v3, rfl, hv3, hst3⟩; have hb3 := zW hb2 hst3; obtain ⟨a3, c3, rfl⟩ := hv3.slice; obtain ⟨t0, u0⟩ := blk (HB.out _ hb3).2.1; have HV := zA hv3; clear hv3))
    refine zM (jQ rfl _ _ (w.heap.size + 2) (.slice a3 X2.1.lines.length c3) (.int .i64 X2.1.anc.line) (.int .i64 X2.1.anc.col) (.int .i64 X2.1.foc.line) (.int .i64 X2.1.foc.col) (.int .i64 X2.1.on) (.int .i64 X2.1.off) (.int .i64 X2.2) rfl rfl (by simp [qR, qW, (HB.out _ hb3).2.1])) rfl ?_;have hfin := H1.out.trans (hb3.mono hs1);have hv3 := HV.out;have hs2 := hb2.size;exact ⟨_, rfl, (qG (zZ _) hv3 jM (fun b h _ => jJ)), by ((with_reducible repeat' first | exact zE _ _ | assumption | refine zG ?_ ?_ _ | refine zH ?_ | refine qQ ?_ | refine zF ?_ ?_ _) <;> go_size)⟩
  ·have HR := zA (HR1.out rfl)
   rw [HR.out];rcases d0 with d0 | ⟨d0, d1⟩
   all_goals
    go_enter Tryz.func137, Tryz.ntmps137
    go_wp2_with (first
     | (go_at_call 42; refine HLd.out.mono ?_; rintro e w2 ⟨rfl, hb2⟩; obtain ⟨q0, g0⟩ := blk (HB.out _ hb2).1; obtain ⟨q1, g1⟩ := blk (HB.out _ hb2).2.1; obtain ⟨q2, g2⟩ := blk (HB.out _ hb2).2.2)
     | (go_at_call 134; refine (HO.out _ hb2).mono ?_; rintro e w3 ⟨v3, rfl, hv3, hst3⟩; have hb3 := zW hb2 hst3; obtain ⟨a3, c3, rfl⟩ := hv3.slice; obtain ⟨t0, u0⟩ := blk (HB.out _ hb3).2.1; have HV := zA hv3; clear hv3))
    refine zM (jQ rfl _ _ (w.heap.size + 2) (.slice a3 X1.1.lines.length c3) (.int .i64 X1.1.anc.line) (.int .i64 X1.1.anc.col) (.int .i64 X1.1.foc.line) (.int .i64 X1.1.foc.col) (.int .i64 X1.1.on) (.int .i64 X1.1.off) (.int .i64 X1.2) rfl rfl (by simp [qR, qW, (HB.out _ hb3).2.1])) rfl ?_;have hfin := H1.out.trans (hb3.mono hs1);have hv3 := HV.out;have hs2 := hb2.size;exact ⟨_, rfl, (qG (zZ _) hv3 jM (fun b h _ => jJ)), by ((with_reducible repeat' first | exact zE _ _ | assumption | refine zG ?_ ?_ _ | refine zH ?_ | refine qQ ?_ | refine zF ?_ ?_ _) <;> go_size)⟩
theorem blk1 {w : World} {B : Nat} {cs : Array Value} {t : TypeId} (h : w.heap[B]? = some (.cells cs t)) : (∀ X k, (w.alloc X).cell? ⟨B, k, none⟩ = cs[k]?) ∧ (∀ X k, (w.alloc X).frozen? ⟨B, k, none⟩ = false) :=
 ⟨fun X _ => jR (zY _ X h), fun X _ => xF (zY _ X h)⟩
def DocPB (n : Nat) (x : Doc × Ps × Int) (w : World) (e : Ending) (w' : World) : Prop := ∃ v', e = .returned (.tuple #[v', posV x.2.1, .int .i64 x.2.2]) ∧ DocR true w' (fun b => n ≤ b) v' x.1 ∧ Below n w w'
theorem DocPSaid.base {x : Doc × Ps × Int} {w W : World} {e : Ending} {w' : World} {n : Nat} (h : DocPSaid x W e w') (hb : Below n w W) (hn : n ≤ W.heap.size) : DocPB n x w e w' := by
 obtain ⟨v', h1, h2, h3⟩ := h;exact ⟨v', h1, qG (zZ true) h2 (qM _ _) (fun b h _ => zD hn h), hb.trans (h3.mono hn)⟩
def zKS (s : St) (g : Nat) (lb : Array Value) (R : Doc × Ps × Int) (w : World) : Prop :=
 ∀ (n : Nat) (W : World) (a : Option Addr) (c : Nat), Below w.heap.size w W → w.heap.size ≤ n → n ≤ W.heap.size → DocR true W (fun b => n ≤ b) (.slice a (outS s).length c) (outS s) → Calls zV g (#[.slice a (outS s).length c, posV (qU s).1] ++ lb) W (DocPB n R W)
set_option maxRecDepth 100000 in
theorem zBL (v : Value) (s : St) (g : Nat) (lb : Array Value) (R : Doc × Ps × Int) (w : World) (S : Nat → Prop) (h : jE w S v s.lines) (he : EnvT w) (hs : Small s.lines) (hf : Fits s.lines)
  (eg : ∀ args w, (callFunc g args).run zV w = .ok (.enter g args) w) (hg : mayS s = true → zKS s g lb R w) :
  Calls zV 107 #[stV v s, .func (.func g) #[] lb] w (StSaid (keyS s R) w) := by
 obtain ⟨W1, hW1, hB, hz, k0, k1⟩ := xE w v s;have HB : Hid (∀ W, Below W1.heap.size W1 W → W.heap[w.heap.size]? = some (.cells #[v, .int .i64 s.anc.line, .int .i64 s.anc.col, .int .i64 s.foc.line, .int .i64 s.foc.col, .int .i64 s.on, .int .i64 s.off] 26) ∧ W.heap[w.heap.size + 1]? = some (.cells #[.slice none 0 0, .int .i64 0, .int .i64 0, .int .i64 0, .int .i64 0, .int .i64 0, .int .i64 0] 26)) := zA fun W hW => ⟨zX hW k0, zX hW k1⟩;have hs1 := hB.size;have H1 := zA hB;have hw0 : Below W1.heap.size W1 W1 := zE _ _;have HV : Hid (∀ W, Below W1.heap.size W1 W → jE W S v s.lines) := zA fun W hW => h.below (zZ _) (hB.trans (hW.mono hs1));have HE : Hid (∀ W, Below W1.heap.size W1 W → EnvT W) := zA fun W hW => (he.below hB).below hW;have HM : Hid (∀ W, Below W1.heap.size W1 W → Calls zV 27 #[stV v s] W fun e w' => e = .returned (.bool (mayS s)) ∧ Below W.heap.size W w') := zA fun W hW => vQ v s W S (HV.out W hW) (HE.out W hW) hs;have HR : Hid (keyS s R = if mayS s = true then endS R else (noS, 1)) := zA rfl;cases hm : mayS s
 ·rw [hm] at HM HR
  have HR : Hid (keyS s R = (noS, 1)) := zA (HR.out.trans (if_neg qE));obtain ⟨p0, f0⟩ := blk k0;obtain ⟨p1, f1⟩ := blk k1;obtain ⟨va, vc, rfl⟩ := h.slice;clear h he hs hf hg k0 k1 hB hm;go_enter Tryz.func107, Tryz.ntmps107;go_wp2_with ((go_at_call 27; refine (HM.out _ hw0).mono ?_; rintro e w2 ⟨rfl, hst2⟩; have hb2 := zW hw0 hst2; obtain ⟨q1, g1⟩ := blk (HB.out _ hb2).2));refine zM (jQ rfl _ _ (w.heap.size + 1) (.slice none 0 0) (.int .i64 0) (.int .i64 0) (.int .i64 0) (.int .i64 0) (.int .i64 0) (.int .i64 0) (.int .i64 1) rfl rfl yL) rfl ?_;unfold StSaid;rw [HR.out];have hfin := H1.out.trans (hb2.mono hs1);exact ⟨_, rfl, SliceR.nil _ _ _ _ _ _, by ((with_reducible repeat' first | exact zE _ _ | assumption | refine zG ?_ ?_ _ | refine zH ?_ | refine qQ ?_ | refine zF ?_ ?_ _) <;> go_size)⟩
 ·have HG : Hid (∀ (n : Nat) (W : World) (a : Option Addr) (c : Nat), Below W1.heap.size W1 W → W1.heap.size ≤ n → n ≤ W.heap.size → DocR true W (fun b => n ≤ b) (.slice a (outS s).length c) (outS s) → Calls zV g (#[.slice a (outS s).length c, posV (qU s).1] ++ lb) W (DocPB n R W)) :=
   zA fun n W a c hW h1 h2 h3 => hg hm n W a c (hB.trans (hW.mono hs1)) (zD hs1 h1) h2 h3
  have hd := (vR hm).2.2.2.1;rw [hm] at HM HR;rw [if_pos rfl] at HR;have HSp : Hid (∀ W, Below W1.heap.size W1 W → Calls zV 49 #[stV v s] W fun e w' => e = .returned (.tuple #[.agg #[.int .i64 (qU s).1.line, .int .i64 (qU s).1.col], .agg #[.int .i64 (qU s).2.line, .int .i64 (qU s).2.col]]) ∧ Below W.heap.size W w') := zA fun W hW => uR v s W
  have HD : Hid (∀ W, Below W1.heap.size W1 W → Calls zV 120 #[v, posV (qU s).1, posV (qU s).2] W (DocSaid (outS s, 0) W)) := zA fun W hW => by
   have := zCA v s.lines (qU s).1 (qU s).2 W S (HV.out W hW) (HE.out W hW) hs hf;rw [hd] at this;exact this
  obtain ⟨O, hO⟩ : ∃ O, outS s = O := ⟨_, rfl⟩;rw [hO] at HD HG;obtain ⟨A, B, hAB⟩ : ∃ A B, qU s = (A, B) := ⟨_, _, rfl⟩;rw [hAB] at HSp HG HD;simp only at HSp HG HD;obtain ⟨D, q, er, hD⟩ : ∃ D q er, R = (D, q, er) := ⟨_, _, _, rfl⟩;subst hD;have HP : Hid (∀ p : Ps, posV p = .agg #[.int .i64 p.line, .int .i64 p.col]) := zA fun _ => rfl;rw [HP.out] at HG;rw [HP.out, HP.out] at HD;have HCl := zA (fun (a : Option Addr) (n c : Nat) (p : Ps) (W : World) => zGt a n c p W);obtain ⟨p0, f0⟩ := blk k0;obtain ⟨p1, f1⟩ := blk k1;obtain ⟨va, vc, rfl⟩ := h.slice;clear h he hs hf hg k0 k1 hB hm hAB hd hO
  by_cases h0 : er = 0
  ·subst h0
   have HR := zA (HR.out.trans (show endS (D, q, (0 : Int)) = (zFO D q, 0) from if_pos rfl));go_enter Tryz.func107, Tryz.ntmps107
   go_wp2_with (first
    | (go_at_call 27; refine (HM.out _ hw0).mono ?_; rintro e w2 ⟨rfl, hst2⟩; have hb2 := zW hw0 hst2; obtain ⟨q0, g0⟩ := blk (HB.out _ hb2).1) | (go_at_call 49; refine (HSp.out _ hb2).mono ?_; rintro e w3 ⟨rfl, hst3⟩; have hb3 := zW hb2 hst3; obtain ⟨q1, g1⟩ := blk (HB.out _ hb3).1; have hz3 := hb3.size; have e3 : ¬ w3.heap.size = w.heap.size := qC; have r1 := on2 (HB.out _ hb3).1; have HX3 : Hid (∀ X Y, Below W1.heap.size W1 ((w3.alloc X).alloc Y)) := zA fun X Y => hb3.trans (uI (zE _ _) X Y |>.mono hz3)) | (go_at_call 120; refine (HD.out _ (HX3.out _ _)).mono ?_; intro e w4 hsaid; obtain ⟨v4, rfl, hv4, hst4⟩ := hsaid; obtain ⟨a4, c4, rfl⟩ := hv4.slice; have hb4 := zW (HX3.out _ _) hst4; have HV4 := zA hv4; clear hv4; have hz4 := hst4.size; have m4 := zX hst4 (zY _ _ (qF _ _ rfl)); obtain ⟨q4, g4⟩ := blk m4) | (go_at_fn g; refine (HG.out _ _ a4 c4 hb4 (HX3.out _ _).size hz4 HV4.out).mono ?_; intro e w5 hsaid; obtain ⟨v5, he5, hv5, hst5⟩ := hsaid; simp only [HP.out] at he5; subst he5; obtain ⟨a5, c5, rfl⟩ := hv5.slice; have hb5 := hb4.trans (hst5.mono (HX3.out _ _).size); have HV5 := zA hv5; clear hv5; obtain ⟨q5, g5⟩ := blk (HB.out _ hb5).2; have hz5 := hb5.size; obtain ⟨r5, s5⟩ := blk1 (HB.out _ hb5).2)
    | (go_at_call 164; refine (HCl.out _ _ _ q _).mono ?_; rintro e w6 ⟨rfl, hst6⟩; have hb56 : Below w5.heap.size w5 w6 := zW ((zE _ _).alloc (zC _) _) hst6; have hb6 := zW hb5 hb56; obtain ⟨q6, g6⟩ := blk (HB.out _ hb6).2))
   refine zM (jQ rfl _ _ (w.heap.size + 1) (.slice a5 D.length c5) (.int .i64 q.line) (.int .i64 q.col) (.int .i64 q.line) (.int .i64 q.col) (.int .i64 0) (.int .i64 0) (.int .i64 0) rfl rfl vZ) rfl ?_;unfold StSaid;rw [HR.out];have hfin := H1.out.trans (hb6.mono hs1);have hv5 := HV5.out.below hb56;exact ⟨_, rfl, (qG (zZ _) hv5 jM (fun b h _ => jJ)), by ((with_reducible repeat' first | exact zE _ _ | assumption | refine zG ?_ ?_ _ | refine zH ?_ | refine qQ ?_ | refine zF ?_ ?_ _) <;> go_size)⟩
  ·have HR2 : Hid (keyS s (D, q, er) = (noS, er)) := zA (HR.out.trans (if_neg h0))
   have hne : (er != 0) = true := by simpa using h0
   have hne2 : (er == 0) = false := by simpa using h0
   clear h0 HR;go_enter Tryz.func107, Tryz.ntmps107
   go_wp2_with (first
    | (go_at_call 27; refine (HM.out _ hw0).mono ?_; rintro e w2 ⟨rfl, hst2⟩; have hb2 := zW hw0 hst2; obtain ⟨q0, g0⟩ := blk (HB.out _ hb2).1) | (go_at_call 49; refine (HSp.out _ hb2).mono ?_; rintro e w3 ⟨rfl, hst3⟩; have hb3 := zW hb2 hst3; obtain ⟨q1, g1⟩ := blk (HB.out _ hb3).1; have hz3 := hb3.size; have e3 : ¬ w3.heap.size = w.heap.size := qC; have r1 := on2 (HB.out _ hb3).1; have HX3 : Hid (∀ X Y, Below W1.heap.size W1 ((w3.alloc X).alloc Y)) := zA fun X Y => hb3.trans (uI (zE _ _) X Y |>.mono hz3)) | (go_at_call 120; refine (HD.out _ (HX3.out _ _)).mono ?_; intro e w4 hsaid; obtain ⟨v4, rfl, hv4, hst4⟩ := hsaid; obtain ⟨a4, c4, rfl⟩ := hv4.slice; have hb4 := zW (HX3.out _ _) hst4; have HV4 := zA hv4; clear hv4; have hz4 := hst4.size; have m4 := zX hst4 (zY _ _ (qF _ _ rfl)); obtain ⟨q4, g4⟩ := blk m4) | (go_at_fn g; refine (HG.out _ _ a4 c4 hb4 (HX3.out _ _).size hz4 HV4.out).mono ?_; intro e w5 hsaid; obtain ⟨v5, he5, hv5, hst5⟩ := hsaid; simp only [HP.out] at he5; subst he5; obtain ⟨a5, c5, rfl⟩ := hv5.slice; have hb5 := hb4.trans (hst5.mono (HX3.out _ _).size); have HV5 := zA hv5; clear hv5; obtain ⟨q5, g5⟩ := blk (HB.out _ hb5).2; have hz5 := hb5.size; obtain ⟨r5, s5⟩ := blk1 (HB.out _ hb5).2))
   refine zM (jQ rfl _ _ (w.heap.size + 1) (.slice none 0 0) (.int .i64 0) (.int .i64 0) (.int .i64 0) (.int .i64 0) (.int .i64 0) (.int .i64 0) (.int .i64 er) rfl rfl (by simp [qR, qW, zY _ _ (HB.out _ hb5).2])) rfl ?_;unfold StSaid;rw [HR2.out];have hfin := H1.out.trans (hb5.mono hs1);exact ⟨_, rfl, SliceR.nil _ _ _ _ _ _, by ((with_reducible repeat' first | exact zE _ _ | assumption | refine zG ?_ ?_ _ | refine zH ?_ | refine qQ ?_ | refine zF ?_ ?_ _) <;> go_size)⟩
end Go.Proofs.YtjgeadoncanheaaGreatDoor
