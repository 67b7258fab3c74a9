/- Parts of the proof. -/
import Derived.Test.YtjgeadoncanheaaGreatDoorAttrWalkT
import Derived.Test.YtjgeadoncanheaaGreatDoorQryNamesT
import Derived.Maps.OwnSet
import Derived.Maps.OwnOps
import Derived.Test.YtjgeadoncanheaaGreatDoorStyTellsT
import Derived.Test.YtjgeadoncanheaaGreatDoorDocDeleteT
import Derived.Test.YtjgeadoncanheaaGreatDoorRefOwnT
set_option linter.unusedVariables false
set_option linter.unusedSimpArgs false
set_option maxHeartbeats 8000000
namespace Go.Proofs.YtjgeadoncanheaaGreatDoor
open Go.RowKit
open Go.Proofs.Qw
attribute [local go_sem] Oper.semAt_some
open _root_.Go.Lib renaming hid → zA
open _root_.Nat renaming le_refl → zC
open _root_.List renaming getElem?_eq_some_iff → zK
open _root_.Go.Proofs.Tryz renaming prog → zV
open _root_.Go.Proofs.YtjgeadoncanheaaGreatDoor renaming jI → zY, jF → qF
theorem zDL (f : Fn) (caps : Array Value) (w : World) : Calls zV 68 #[.func f #[] caps] w fun e w' => e = .returned (.func (.func 113) #[] #[.pointer (some ⟨w.heap.size, 0, none⟩)]) ∧ w' = w.alloc (.cells #[.func f #[] caps] 93) := by
 go_enter Tryz.func68, Tryz.ntmps68;go_wp2_with fail;go_ret;exact ⟨rfl, rfl⟩
theorem zJk (b : Int) (w : World) : Calls zV 73 #[.int .i64 b] w fun e w' => e = .returned (.func (.func 113) #[] #[.pointer (some ⟨w.heap.size + 1, 0, none⟩)]) ∧
  w' = (w.alloc (.cells #[.int .i64 b] 3)).alloc (.cells #[.func (.func 122) #[] #[.pointer (some ⟨w.heap.size, 0, none⟩)]] 93) := by
 go_enter Tryz.func73, Tryz.ntmps73;go_wp2_with (go_at_call 68; refine (zDL _ _ _).mono ?_; rintro e w2 ⟨rfl, rfl⟩);go_ret;exact ⟨by simp, rfl⟩
theorem zKK (b : Int) (w : World) : Calls zV 80 #[.int .i64 b] w fun e w' => e = .returned (.func (.func 113) #[] #[.pointer (some ⟨w.heap.size + 1, 0, none⟩)]) ∧
  w' = (w.alloc (.cells #[.int .i64 b] 3)).alloc (.cells #[.func (.func 136) #[] #[.pointer (some ⟨w.heap.size, 0, none⟩)]] 93) := by
 go_enter Tryz.func80, Tryz.ntmps80;go_wp2_with (go_at_call 68; refine (zDL _ _ _).mono ?_; rintro e w2 ⟨rfl, rfl⟩);go_ret;exact ⟨by simp, rfl⟩
def zAM (n : Nat) : List Value := [
 .func (.func 67) #[] #[],
 .func (.func 113) #[] #[.pointer (some ⟨n + 1, 0, none⟩)],
 .func (.func 113) #[] #[.pointer (some ⟨n + 2, 0, none⟩)],
 .func (.func 113) #[] #[.pointer (some ⟨n + 3, 0, none⟩)],
 .func (.func 113) #[] #[.pointer (some ⟨n + 4, 0, none⟩)],
 .func (.func 113) #[] #[.pointer (some ⟨n + 6, 0, none⟩)],
 .func (.func 113) #[] #[.pointer (some ⟨n + 8, 0, none⟩)],
 .func (.func 113) #[] #[.pointer (some ⟨n + 10, 0, none⟩)],
 .func (.func 113) #[] #[.pointer (some ⟨n + 12, 0, none⟩)],
 .func (.func 74) #[] #[],
 .func (.func 113) #[] #[.pointer (some ⟨n + 13, 0, none⟩)],
 .func (.func 113) #[] #[.pointer (some ⟨n + 14, 0, none⟩)],
 .func (.func 77) #[] #[],
 .func (.func 113) #[] #[.pointer (some ⟨n + 15, 0, none⟩)],
 .func (.func 113) #[] #[.pointer (some ⟨n + 16, 0, none⟩)],
 .func (.func 113) #[] #[.pointer (some ⟨n + 18, 0, none⟩)],
 .func (.func 113) #[] #[.pointer (some ⟨n + 20, 0, none⟩)]]
def tabV (n : Nat) : Array Value := #[.string ⟨#[105, 110, 115, 101, 114, 116, 84, 101, 120, 116]⟩, .string ⟨#[105, 110, 115, 101, 114, 116, 84, 101, 120, 116]⟩, .int .i64 1, .func (.func 67) #[] #[], .string ⟨#[105, 110, 115, 101, 114, 116, 76, 105, 110, 101, 66, 114, 101, 97, 107]⟩, .string ⟨#[105, 110, 115, 101, 114, 116, 76, 105, 110, 101, 66, 114, 101, 97, 107]⟩, .int .i64 0, .func (.func 113) #[] #[.pointer (some ⟨n + 1, 0, none⟩)], .string ⟨#[105, 110, 115, 101, 114, 116, 80, 97, 114, 97, 103, 114, 97, 112, 104]⟩, .string ⟨#[105, 110, 115, 101, 114, 116, 80, 97, 114, 97, 103, 114, 97, 112, 104]⟩, .int .i64 0, .func (.func 113) #[] #[.pointer (some ⟨n + 2, 0, none⟩)], .string ⟨#[100, 101, 108, 101, 116, 101]⟩, .string ⟨#[100, 101, 108, 101, 116, 101, 67, 111, 110, 116, 101, 110, 116, 66, 97, 99, 107, 119, 97, 114, 100]⟩, .int .i64 0, .func (.func 113) #[] #[.pointer (some ⟨n + 3, 0, none⟩)], .string ⟨#[102, 111, 114, 119, 97, 114, 100, 68, 101, 108, 101, 116, 101]⟩, .string ⟨#[100, 101, 108, 101, 116, 101, 67, 111, 110, 116, 101, 110, 116, 70, 111, 114, 119, 97, 114, 100]⟩, .int .i64 0, .func (.func 113) #[] #[.pointer (some ⟨n + 4, 0, none⟩)], .string ⟨#[98, 111, 108, 100]⟩, .string ⟨#[102, 111, 114, 109, 97, 116, 66, 111, 108, 100]⟩, .int .i64 0, .func (.func 113) #[] #[.pointer (some ⟨n + 6, 0, none⟩)], .string ⟨#[105, 116, 97, 108, 105, 99]⟩, .string ⟨#[102, 111, 114, 109, 97, 116, 73, 116, 97, 108, 105, 99]⟩, .int .i64 0, .func (.func 113) #[] #[.pointer (some ⟨n + 8, 0, none⟩)], .string ⟨#[117, 110, 100, 101, 114, 108, 105, 110, 101]⟩, .string ⟨#[102, 111, 114, 109, 97, 116, 85, 110, 100, 101, 114, 108, 105, 110, 101]⟩, .int .i64 0, .func (.func 113) #[] #[.pointer (some ⟨n + 10, 0, none⟩)], .string ⟨#[115, 116, 114, 105, 107, 101, 84, 104, 114, 111, 117, 103, 104]⟩, .string ⟨#[102, 111, 114, 109, 97, 116, 83, 116, 114, 105, 107, 101, 84, 104, 114, 111, 117, 103, 104]⟩, .int .i64 0, .func (.func 113) #[] #[.pointer (some ⟨n + 12, 0, none⟩)], .string ⟨#[99, 114, 101, 97, 116, 101, 76, 105, 110, 107]⟩, .string ⟨#[105, 110, 115, 101, 114, 116, 76, 105, 110, 107]⟩, .int .i64 1, .func (.func 74) #[] #[], .string ⟨#[117, 110, 108, 105, 110, 107]⟩, .string ⟨#[102, 111, 114, 109, 97, 116, 85, 110, 108, 105, 110, 107]⟩, .int .i64 0, .func (.func 113) #[] #[.pointer (some ⟨n + 13, 0, none⟩)], .string ⟨#[114, 101, 109, 111, 118, 101, 70, 111, 114, 109, 97, 116]⟩, .string ⟨#[102, 111, 114, 109, 97, 116, 82, 101, 109, 111, 118, 101]⟩, .int .i64 0, .func (.func 113) #[] #[.pointer (some ⟨n + 14, 0, none⟩)], .string ⟨#[102, 111, 114, 109, 97, 116, 66, 108, 111, 99, 107]⟩, .string ⟨#[102, 111, 114, 109, 97, 116, 66, 108, 111, 99, 107]⟩, .int .i64 1, .func (.func 77) #[] #[], .string ⟨#[105, 110, 100, 101, 110, 116]⟩, .string ⟨#[102, 111, 114, 109, 97, 116, 73, 110, 100, 101, 110, 116]⟩, .int .i64 0, .func (.func 113) #[] #[.pointer (some ⟨n + 15, 0, none⟩)], .string ⟨#[111, 117, 116, 100, 101, 110, 116]⟩, .string ⟨#[102, 111, 114, 109, 97, 116, 79, 117, 116, 100, 101, 110, 116]⟩, .int .i64 0, .func (.func 113) #[] #[.pointer (some ⟨n + 16, 0, none⟩)], .string ⟨#[105, 110, 115, 101, 114, 116, 85, 110, 111, 114, 100, 101, 114, 101, 100, 76, 105, 115, 116]⟩, .string ⟨#[105, 110, 115, 101, 114, 116, 85, 110, 111, 114, 100, 101, 114, 101, 100, 76, 105, 115, 116]⟩, .int .i64 0, .func (.func 113) #[] #[.pointer (some ⟨n + 18, 0, none⟩)], .string ⟨#[105, 110, 115, 101, 114, 116, 79, 114, 100, 101, 114, 101, 100, 76, 105, 115, 116]⟩, .string ⟨#[105, 110, 115, 101, 114, 116, 79, 114, 100, 101, 114, 101, 100, 76, 105, 115, 116]⟩, .int .i64 0, .func (.func 113) #[] #[.pointer (some ⟨n + 20, 0, none⟩)]]
def zAb (n : Nat) : List Obj := [
 .cells #[.func (.func 69) #[] #[]] 93,
 .cells #[.func (.func 70) #[] #[]] 93,
 .cells #[.func (.func 71) #[] #[]] 93,
 .cells #[.func (.func 72) #[] #[]] 93,
 .cells #[.int .i64 1] 3,
 .cells #[.func (.func 122) #[] #[.pointer (some ⟨n + 5, 0, none⟩)]] 93,
 .cells #[.int .i64 2] 3,
 .cells #[.func (.func 122) #[] #[.pointer (some ⟨n + 7, 0, none⟩)]] 93,
 .cells #[.int .i64 4] 3,
 .cells #[.func (.func 122) #[] #[.pointer (some ⟨n + 9, 0, none⟩)]] 93,
 .cells #[.int .i64 8] 3,
 .cells #[.func (.func 122) #[] #[.pointer (some ⟨n + 11, 0, none⟩)]] 93,
 .cells #[.func (.func 75) #[] #[]] 93,
 .cells #[.func (.func 76) #[] #[]] 93,
 .cells #[.func (.func 78) #[] #[]] 93,
 .cells #[.func (.func 79) #[] #[]] 93,
 .cells #[.int .i64 0] 3,
 .cells #[.func (.func 136) #[] #[.pointer (some ⟨n + 17, 0, none⟩)]] 93,
 .cells #[.int .i64 1] 3,
 .cells #[.func (.func 136) #[] #[.pointer (some ⟨n + 19, 0, none⟩)]] 93]
structure TabAt (w W : World) (k : Nat) : Prop where
 below : Below w.heap.size w W
 size : W.heap.size = w.heap.size + (k + 1)
 tab : W.heap[w.heap.size]? = some (.cells Tryz.zeroCells64 64)
 objs : ∀ j o, j < k → (zAb w.heap.size)[j]? = some o → W.heap[w.heap.size + (j + 1)]? = some o
theorem TabAt.snoc {w W : World} {k : Nat} (h : TabAt w W k) {o : Obj} (ho : (zAb w.heap.size)[k]? = some o) : TabAt w (W.alloc o) (k + 1) :=
 ⟨h.below.alloc h.below.size _, by simp [h.size]; omega, zY _ _ h.tab, fun j o' hj hj' => by
  by_cases e : j = k
  ·subst e
   rw [ho] at hj';cases hj';exact qF _ _ h.size.symm
  ·exact zY _ _ (h.objs j o' qE hj')⟩
theorem zMg {w W : World} {k : Nat} (h : TabAt w W k) (f : Fn) (caps : Array Value) (ho : (zAb w.heap.size)[k]? = some (.cells #[.func f #[] caps] 93)) :
  Calls zV 68 #[.func f #[] caps] W fun e w' => e = .returned (.func (.func 113) #[] #[.pointer (some ⟨w.heap.size + (k + 1), 0, none⟩)]) ∧ TabAt w w' (k + 1) :=
 (zDL f caps W).mono fun _ _ ⟨h1, h2⟩ => ⟨by rw [h1, h.size], h2 ▸ h.snoc ho⟩
theorem zJT {w W : World} {k : Nat} (h : TabAt w W k) (b : Int) (ho : (zAb w.heap.size)[k]? = some (.cells #[.int .i64 b] 3)) (ho2 : (zAb w.heap.size)[k + 1]? = some (.cells #[.func (.func 122) #[] #[.pointer (some ⟨w.heap.size + (k + 1), 0, none⟩)]] 93)) :
  Calls zV 73 #[.int .i64 b] W fun e w' => e = .returned (.func (.func 113) #[] #[.pointer (some ⟨w.heap.size + (k + 2), 0, none⟩)]) ∧ TabAt w w' (k + 2) :=
 (zJk b W).mono fun _ _ ⟨h1, h2⟩ => ⟨by rw [h1, h.size, Nat.add_assoc], by rw [h2, h.size]; exact (h.snoc ho).snoc ho2⟩
theorem zGt {w W : World} {k : Nat} (h : TabAt w W k) (b : Int) (ho : (zAb w.heap.size)[k]? = some (.cells #[.int .i64 b] 3)) (ho2 : (zAb w.heap.size)[k + 1]? = some (.cells #[.func (.func 136) #[] #[.pointer (some ⟨w.heap.size + (k + 1), 0, none⟩)]] 93)) :
  Calls zV 80 #[.int .i64 b] W fun e w' => e = .returned (.func (.func 113) #[] #[.pointer (some ⟨w.heap.size + (k + 2), 0, none⟩)]) ∧ TabAt w w' (k + 2) :=
 (zKK b W).mono fun _ _ ⟨h1, h2⟩ => ⟨by rw [h1, h.size, Nat.add_assoc], by rw [h2, h.size]; exact (h.snoc ho).snoc ho2⟩
theorem zDb (w : World) (g : Nat) (cs : Array Value) {b : Nat} (h : b ≠ g) : (w.setRow g cs).heap[b]? = w.heap[b]? := by
 unfold World.setRow;simp only [Array.getElem?_modify];rw [if_neg (Ne.symm h)]
theorem zBW {n g : Nat} {w W : World} {cs : Array Value} (h : Below n w W) (hg : n ≤ g) : Below n w (W.setRow g cs) :=
 h.trans ⟨rfl, rfl, rfl, by simp [World.setRow], fun k hk => zDb _ _ _ qE⟩
theorem zJa {fn : Func} {p : Tmp} (h : fn.results = #[.cell p 64]) (tmps : Array Value) (w : World) (B : Nat) (vs : Array Value) (hp : tmps.getD p undef = .pointer (some ⟨B, 0, none⟩))
  (hB : w.heap[B]? = some (.cells vs 64)) (hs : (Tryz.prog.info? 64).map (·.size) = some vs.size) : (results fn tmps).run zV w = .ok (.agg vs) w := by
 have h1 := run_loadVar_row (P := zV) w B 64 64 _ _ _ hB Tryz.underlying64 rfl hs;have hp' : tmps[p]?.getD undef = .pointer (some ⟨B, 0, none⟩) := by simpa using hp
 simp [results, h, hp', asAddr, h1]
set_option maxRecDepth 100000 in
theorem zBz (w : World) : Calls zV 37 #[] w fun e w' => e = .returned (.agg (tabV w.heap.size)) ∧ Below w.heap.size w w' ∧ ∀ (k : Nat) (o : Obj), (zAb w.heap.size)[k]? = some o → w'.heap[w.heap.size + (k + 1)]? = some o := by
 have ht : TabAt w (w.alloc (.cells Tryz.zeroCells64 64)) 0 := ⟨(Below.refl _ _).alloc (zC _) _, by simp, qF _ _ rfl, fun j _ hj => by omega⟩;go_enter Tryz.func37, Tryz.ntmps37
 go_wp2_with (first
  | (go_at_call 68; refine (zMg qW _ _ rfl).mono ?_; rintro e w2 ⟨rfl, ht⟩; simp only [Nat.reduceAdd] at ht)
  | (go_at_call 73; refine (zJT qW _ rfl rfl).mono ?_; rintro e w2 ⟨rfl, ht⟩; simp only [Nat.reduceAdd] at ht))
 go_at_call 80; refine (zGt qW _ rfl rfl).mono ?_; rintro e w2 ⟨rfl, ht⟩; simp only [Nat.reduceAdd] at ht;go_wp2_with fail;go_at_call 80; refine (zGt qW _ rfl rfl).mono ?_; rintro e w2 ⟨rfl, ht⟩; simp only [Nat.reduceAdd] at ht;simp only [];go_step;refine wpList_build rfl _ _ rfl qC ?_;refine wpList_build rfl _ _ rfl qC ?_;refine wpList_store_row rfl _ _ _ rfl w.heap.size (tabV w.heap.size) qC qC 64 _ (TabAt.tab qW) qC qC qC ?_;have HT := zA (And.intro ht.below (And.intro ht.tab ht.objs))
 generalize hact : Act.put _ _ _ = a9
 have ha9 : a9.tmps.getD 0 undef = .pointer (some ⟨w.heap.size, 0, none⟩) := by rw [← hact]; kernel_rfl
 have hd9 : a9.defers = [] := by rw [← hact]; kernel_rfl
 clear hact;clear ht;refine wpList_nil ?_;have hW := setRow_heap w2 w.heap.size _ (tabV w.heap.size) 64 _ HT.out.2.1;have hO : ∀ b, b ≠ w.heap.size → (w2.setRow w.heap.size (tabV w.heap.size)).heap[b]? = w2.heap[b]? := fun b hb => zDb w2 _ _ hb;have hB : Below w.heap.size w (w2.setRow w.heap.size (tabV w.heap.size)) := zBW HT.out.1 (zC _);simp only [Exit.then];refine ‹∀ (a : Act) (w : World), Code.wp _ _ _ a w → _› _ _ ?_;refine wp_ret ?_
 show bodyPost _ _ _ Exit.ret a9 _
 refine bodyPost_ret (zJa rfl _ _ w.heap.size _ ha9 hW qC) hd9 ?_
 exact ⟨rfl, hB, fun k o hk => by
  have hk20 : k < 20 := (zK.1 hk).1;rw [hO _ qE];exact HT.out.2.2 k o hk20 hk⟩
def tagV (n : Nat) : Array Value := #[.slice none 0 0, .int .i64 1, .slice (some ⟨n + 1, 0, none⟩) 1 1, .int .i64 2, .slice (some ⟨n + 2, 0, none⟩) 1 1, .int .i64 3, .slice (some ⟨n + 3, 0, none⟩) 1 1, .int .i64 3, .slice (some ⟨n + 4, 0, none⟩) 1 1, .int .i64 3, .slice (some ⟨n + 5, 0, none⟩) 1 1, .int .i64 3, .slice (some ⟨n + 6, 0, none⟩) 1 1, .int .i64 2, .slice (some ⟨n + 7, 0, none⟩) 1 1, .int .i64 2, .slice (some ⟨n + 8, 0, none⟩) 1 1, .int .i64 2, .slice (some ⟨n + 9, 0, none⟩) 1 1, .int .i64 3, .slice (some ⟨n + 10, 0, none⟩) 1 1, .int .i64 4, .slice (some ⟨n + 11, 0, none⟩) 2 2, .int .i64 4, .slice (some ⟨n + 12, 0, none⟩) 2 2, .int .i64 4, .slice (some ⟨n + 13, 0, none⟩) 2 2, .int .i64 4, .slice (some ⟨n + 14, 0, none⟩) 3 3, .int .i64 4, .slice (some ⟨n + 15, 0, none⟩) 1 1, .int .i64 4, .slice (some ⟨n + 16, 0, none⟩) 1 1, .int .i64 5]
def vX : List Obj := [
 .cells #[.string ⟨#[100, 105, 118]⟩] 9,
 .cells #[.string ⟨#[112]⟩] 9,
 .cells #[.string ⟨#[104, 49]⟩] 9,
 .cells #[.string ⟨#[104, 50]⟩] 9,
 .cells #[.string ⟨#[104, 51]⟩] 9,
 .cells #[.string ⟨#[98, 108, 111, 99, 107, 113, 117, 111, 116, 101]⟩] 9,
 .cells #[.string ⟨#[117, 108]⟩] 9,
 .cells #[.string ⟨#[111, 108]⟩] 9,
 .cells #[.string ⟨#[108, 105]⟩] 9,
 .cells #[.string ⟨#[97]⟩] 9,
 .cells #[.string ⟨#[98]⟩, .string ⟨#[115, 116, 114, 111, 110, 103]⟩] 9,
 .cells #[.string ⟨#[105]⟩, .string ⟨#[101, 109]⟩] 9,
 .cells #[.string ⟨#[117]⟩, .string ⟨#[105, 110, 115]⟩] 9,
 .cells #[.string ⟨#[115]⟩, .string ⟨#[115, 116, 114, 105, 107, 101]⟩, .string ⟨#[100, 101, 108]⟩] 9,
 .cells #[.string ⟨#[115, 112, 97, 110]⟩] 9,
 .cells #[.string ⟨#[98, 114]⟩] 9]
set_option maxRecDepth 100000 in
theorem zKF (w : World) : ∃ W1, ((((((((((((((((w.alloc (.cells #[.slice none 0 0, .int .i64 0, .slice none 0 0, .int .i64 0, .slice none 0 0, .int .i64 0, .slice none 0 0, .int .i64 0, .slice none 0 0, .int .i64 0, .slice none 0 0, .int .i64 0, .slice none 0 0, .int .i64 0, .slice none 0 0, .int .i64 0, .slice none 0 0, .int .i64 0, .slice none 0 0, .int .i64 0, .slice none 0 0, .int .i64 0, .slice none 0 0, .int .i64 0, .slice none 0 0, .int .i64 0, .slice none 0 0, .int .i64 0, .slice none 0 0, .int .i64 0, .slice none 0 0, .int .i64 0, .slice none 0 0, .int .i64 0] 108)).alloc (.cells #[.string ⟨#[100, 105, 118]⟩] 9)).alloc (.cells #[.string ⟨#[112]⟩] 9)).alloc (.cells #[.string ⟨#[104, 49]⟩] 9)).alloc (.cells #[.string ⟨#[104, 50]⟩] 9)).alloc (.cells #[.string ⟨#[104, 51]⟩] 9)).alloc (.cells #[.string ⟨#[98, 108, 111, 99, 107, 113, 117, 111, 116, 101]⟩] 9)).alloc (.cells #[.string ⟨#[117, 108]⟩] 9)).alloc (.cells #[.string ⟨#[111, 108]⟩] 9)).alloc (.cells #[.string ⟨#[108, 105]⟩] 9)).alloc (.cells #[.string ⟨#[97]⟩] 9)).alloc (.cells #[.string ⟨#[98]⟩, .string ⟨#[115, 116, 114, 111, 110, 103]⟩] 9)).alloc (.cells #[.string ⟨#[105]⟩, .string ⟨#[101, 109]⟩] 9)).alloc (.cells #[.string ⟨#[117]⟩, .string ⟨#[105, 110, 115]⟩] 9)).alloc (.cells #[.string ⟨#[115]⟩, .string ⟨#[115, 116, 114, 105, 107, 101]⟩, .string ⟨#[100, 101, 108]⟩] 9)).alloc (.cells #[.string ⟨#[115, 112, 97, 110]⟩] 9)).alloc (.cells #[.string ⟨#[98, 114]⟩] 9) = W1 ∧ Below w.heap.size w W1 ∧ W1.heap[w.heap.size]? = some (.cells #[.slice none 0 0, .int .i64 0, .slice none 0 0, .int .i64 0, .slice none 0 0, .int .i64 0, .slice none 0 0, .int .i64 0, .slice none 0 0, .int .i64 0, .slice none 0 0, .int .i64 0, .slice none 0 0, .int .i64 0, .slice none 0 0, .int .i64 0, .slice none 0 0, .int .i64 0, .slice none 0 0, .int .i64 0, .slice none 0 0, .int .i64 0, .slice none 0 0, .int .i64 0, .slice none 0 0, .int .i64 0, .slice none 0 0, .int .i64 0, .slice none 0 0, .int .i64 0, .slice none 0 0, .int .i64 0, .slice none 0 0, .int .i64 0] 108) ∧ W1.heap[w.heap.size + 1]? = some (.cells #[.string ⟨#[100, 105, 118]⟩] 9) ∧ W1.heap[w.heap.size + 2]? = some (.cells #[.string ⟨#[112]⟩] 9) ∧ W1.heap[w.heap.size + 3]? = some (.cells #[.string ⟨#[104, 49]⟩] 9) ∧ W1.heap[w.heap.size + 4]? = some (.cells #[.string ⟨#[104, 50]⟩] 9) ∧ W1.heap[w.heap.size + 5]? = some (.cells #[.string ⟨#[104, 51]⟩] 9) ∧ W1.heap[w.heap.size + 6]? = some (.cells #[.string ⟨#[98, 108, 111, 99, 107, 113, 117, 111, 116, 101]⟩] 9) ∧ W1.heap[w.heap.size + 7]? = some (.cells #[.string ⟨#[117, 108]⟩] 9) ∧ W1.heap[w.heap.size + 8]? = some (.cells #[.string ⟨#[111, 108]⟩] 9) ∧ W1.heap[w.heap.size + 9]? = some (.cells #[.string ⟨#[108, 105]⟩] 9) ∧ W1.heap[w.heap.size + 10]? = some (.cells #[.string ⟨#[97]⟩] 9) ∧ W1.heap[w.heap.size + 11]? = some (.cells #[.string ⟨#[98]⟩, .string ⟨#[115, 116, 114, 111, 110, 103]⟩] 9) ∧ W1.heap[w.heap.size + 12]? = some (.cells #[.string ⟨#[105]⟩, .string ⟨#[101, 109]⟩] 9) ∧ W1.heap[w.heap.size + 13]? = some (.cells #[.string ⟨#[117]⟩, .string ⟨#[105, 110, 115]⟩] 9) ∧ W1.heap[w.heap.size + 14]? = some (.cells #[.string ⟨#[115]⟩, .string ⟨#[115, 116, 114, 105, 107, 101]⟩, .string ⟨#[100, 101, 108]⟩] 9) ∧ W1.heap[w.heap.size + 15]? = some (.cells #[.string ⟨#[115, 112, 97, 110]⟩] 9) ∧ W1.heap[w.heap.size + 16]? = some (.cells #[.string ⟨#[98, 114]⟩] 9) :=
 ⟨_, rfl, (((((((((((((((((Below.refl _ _).alloc (zC _) _).alloc qT _).alloc jD _).alloc jD _).alloc jD _).alloc jD _).alloc jD _).alloc jD _).alloc jD _).alloc jD _).alloc jD _).alloc jD _).alloc jD _).alloc jD _).alloc jD _).alloc jD _).alloc jD _, zY _ _ (zY _ _ (zY _ _ (zY _ _ (zY _ _ (zY _ _ (zY _ _ (zY _ _ (zY _ _ (zY _ _ (zY _ _ (zY _ _ (zY _ _ (zY _ _ (zY _ _ (zY _ _ (qF _ _ rfl)))))))))))))))), zY _ _ (zY _ _ (zY _ _ (zY _ _ (zY _ _ (zY _ _ (zY _ _ (zY _ _ (zY _ _ (zY _ _ (zY _ _ (zY _ _ (zY _ _ (zY _ _ (zY _ _ (qF _ _ qT))))))))))))))), zY _ _ (zY _ _ (zY _ _ (zY _ _ (zY _ _ (zY _ _ (zY _ _ (zY _ _ (zY _ _ (zY _ _ (zY _ _ (zY _ _ (zY _ _ (zY _ _ (qF _ _ qT)))))))))))))), zY _ _ (zY _ _ (zY _ _ (zY _ _ (zY _ _ (zY _ _ (zY _ _ (zY _ _ (zY _ _ (zY _ _ (zY _ _ (zY _ _ (zY _ _ (qF _ _ qT))))))))))))), zY _ _ (zY _ _ (zY _ _ (zY _ _ (zY _ _ (zY _ _ (zY _ _ (zY _ _ (zY _ _ (zY _ _ (zY _ _ (zY _ _ (qF _ _ qT)))))))))))), zY _ _ (zY _ _ (zY _ _ (zY _ _ (zY _ _ (zY _ _ (zY _ _ (zY _ _ (zY _ _ (zY _ _ (zY _ _ (qF _ _ qT))))))))))), zY _ _ (zY _ _ (zY _ _ (zY _ _ (zY _ _ (zY _ _ (zY _ _ (zY _ _ (zY _ _ (zY _ _ (qF _ _ qT)))))))))), zY _ _ (zY _ _ (zY _ _ (zY _ _ (zY _ _ (zY _ _ (zY _ _ (zY _ _ (zY _ _ (qF _ _ qT))))))))), zY _ _ (zY _ _ (zY _ _ (zY _ _ (zY _ _ (zY _ _ (zY _ _ (zY _ _ (qF _ _ qT)))))))), zY _ _ (zY _ _ (zY _ _ (zY _ _ (zY _ _ (zY _ _ (zY _ _ (qF _ _ qT))))))), zY _ _ (zY _ _ (zY _ _ (zY _ _ (zY _ _ (zY _ _ (qF _ _ qT)))))), zY _ _ (zY _ _ (zY _ _ (zY _ _ (zY _ _ (qF _ _ qT))))), zY _ _ (zY _ _ (zY _ _ (zY _ _ (qF _ _ qT)))), zY _ _ (zY _ _ (zY _ _ (qF _ _ qT))), zY _ _ (zY _ _ (qF _ _ qT)), zY _ _ (qF _ _ qT), qF _ _ qT⟩
theorem zHo {fn : Func} {p : Tmp} (h : fn.results = #[.cell p 108]) (tmps : Array Value) (w : World) (B : Nat) (vs : Array Value) (hp : tmps.getD p undef = .pointer (some ⟨B, 0, none⟩))
  (hB : w.heap[B]? = some (.cells vs 108)) (hs : (Tryz.prog.info? 108).map (·.size) = some vs.size) : (results fn tmps).run zV w = .ok (.agg vs) w := by
 have h1 := run_loadVar_row (P := zV) w B 108 108 _ _ _ hB Tryz.underlying108 rfl hs;have hp' : tmps[p]?.getD undef = .pointer (some ⟨B, 0, none⟩) := by simpa using hp
 simp [results, h, hp', asAddr, h1]
theorem zLz {w W : World} (h0 : W.heap[w.heap.size + 1]? = some (.cells #[.string ⟨#[100, 105, 118]⟩] 9)) (h1 : W.heap[w.heap.size + 2]? = some (.cells #[.string ⟨#[112]⟩] 9)) (h2 : W.heap[w.heap.size + 3]? = some (.cells #[.string ⟨#[104, 49]⟩] 9)) (h3 : W.heap[w.heap.size + 4]? = some (.cells #[.string ⟨#[104, 50]⟩] 9)) (h4 : W.heap[w.heap.size + 5]? = some (.cells #[.string ⟨#[104, 51]⟩] 9)) (h5 : W.heap[w.heap.size + 6]? = some (.cells #[.string ⟨#[98, 108, 111, 99, 107, 113, 117, 111, 116, 101]⟩] 9)) (h6 : W.heap[w.heap.size + 7]? = some (.cells #[.string ⟨#[117, 108]⟩] 9)) (h7 : W.heap[w.heap.size + 8]? = some (.cells #[.string ⟨#[111, 108]⟩] 9)) (h8 : W.heap[w.heap.size + 9]? = some (.cells #[.string ⟨#[108, 105]⟩] 9)) (h9 : W.heap[w.heap.size + 10]? = some (.cells #[.string ⟨#[97]⟩] 9)) (h10 : W.heap[w.heap.size + 11]? = some (.cells #[.string ⟨#[98]⟩, .string ⟨#[115, 116, 114, 111, 110, 103]⟩] 9)) (h11 : W.heap[w.heap.size + 12]? = some (.cells #[.string ⟨#[105]⟩, .string ⟨#[101, 109]⟩] 9)) (h12 : W.heap[w.heap.size + 13]? = some (.cells #[.string ⟨#[117]⟩, .string ⟨#[105, 110, 115]⟩] 9)) (h13 : W.heap[w.heap.size + 14]? = some (.cells #[.string ⟨#[115]⟩, .string ⟨#[115, 116, 114, 105, 107, 101]⟩, .string ⟨#[100, 101, 108]⟩] 9)) (h14 : W.heap[w.heap.size + 15]? = some (.cells #[.string ⟨#[115, 112, 97, 110]⟩] 9)) (h15 : W.heap[w.heap.size + 16]? = some (.cells #[.string ⟨#[98, 114]⟩] 9)) : ∀ (k : Nat) (o : Obj), vX[k]? = some o → W.heap[w.heap.size + (k + 1)]? = some o := fun k o hk => by
 have hk16 : k < 16 := (zK.1 hk).1
 match k, hk16, hk with
 | 0, _, hk => cases hk; exact h0
 | 1, _, hk => cases hk; exact h1
 | 2, _, hk => cases hk; exact h2
 | 3, _, hk => cases hk; exact h3
 | 4, _, hk => cases hk; exact h4
 | 5, _, hk => cases hk; exact h5
 | 6, _, hk => cases hk; exact h6
 | 7, _, hk => cases hk; exact h7
 | 8, _, hk => cases hk; exact h8
 | 9, _, hk => cases hk; exact h9
 | 10, _, hk => cases hk; exact h10
 | 11, _, hk => cases hk; exact h11
 | 12, _, hk => cases hk; exact h12
 | 13, _, hk => cases hk; exact h13
 | 14, _, hk => cases hk; exact h14
 | 15, _, hk => cases hk; exact h15
set_option maxRecDepth 100000 in
theorem zEG (w : World) : Calls zV 99 #[] w fun e w' => e = .returned (.agg (tagV w.heap.size)) ∧ Below w.heap.size w w' ∧ ∀ (k : Nat) (o : Obj), vX[k]? = some o → w'.heap[w.heap.size + (k + 1)]? = some o := by
 obtain ⟨W1, hW1, hB, ht, h0, h1, h2, h3, h4, h5, h6, h7, h8, h9, h10, h11, h12, h13, h14, h15⟩ := zKF w;have HO := zA (zLz h0 h1 h2 h3 h4 h5 h6 h7 h8 h9 h10 h11 h12 h13 h14 h15);have HT := zA ht;have HB := zA hB;have HW := zA hW1;clear hW1 ht hB h0 h1 h2 h3 h4 h5 h6 h7 h8 h9 h10 h11 h12 h13 h14 h15;go_enter Tryz.func99, Tryz.ntmps99
 go_wp2_with (first
  | (refine wpList_build rfl 108 _ rfl qC ?_; rw [HW.out]
     refine wpList_store_row rfl 108 _ _ rfl w.heap.size (tagV w.heap.size) qC qC 108 _ HT.out qC qC qC ?_
     generalize hact : Act.put _ _ _ = a9
     have ha9 : a9.tmps.getD 0 undef = .pointer (some ⟨w.heap.size, 0, none⟩) := by rw [← hact]; kernel_rfl
     have hd9 : a9.defers = [] := by rw [← hact]; kernel_rfl
     clear hact;refine wpList_nil ?_;have hW := setRow_heap W1 w.heap.size _ (tagV w.heap.size) 108 _ HT.out;simp only [Exit.then];refine ‹∀ (a : Act) (w : World), Code.wp _ _ _ a w → _› _ _ ?_;refine wp_ret ?_;refine bodyPost_ret (zHo rfl _ _ w.heap.size _ ha9 hW qC) hd9 ?_;exact ⟨rfl, zBW HB.out (zC _), fun k o hk => by rw [zDb _ _ _ qE]; exact HO.out k o hk⟩))
end Go.Proofs.YtjgeadoncanheaaGreatDoor
namespace Go.Proofs.Qw
open Go.RowKit Go.Proofs.YtjgeadoncanheaaGreatDoor
open _root_.List renaming getElem?_eq_some_iff → zK
def putT (D : DataW Unit) (x : List UInt8 × Int) : DataW Unit := D.put (.string x.1) (.lit (.int .i64 x.2))
def mapT (n : Nat) : DataW Unit := (kD.take n).foldl putT (.map [])
theorem zKV {n : Nat} {x : List UInt8 × Int} (h : kD[n]? = some x) : mapT (n + 1) = putT (mapT n) x := by
 unfold mapT;rw [xF h, List.foldl_append]
 rfl
theorem zFG : ∀ (xs : List (List UInt8 × Int)) (D : DataW Unit), Maps.IsMap D → Maps.IsMap (xs.foldl putT D)
 | [], _, h => h
 | _ :: xs, _, h => zFG xs _ (h.put _ _)
theorem zDY {l : List UInt8} : ∀ (xs : List (List UInt8 × Int)) (D : DataW Unit) (z : DataW Unit), (∀ x ∈ xs, x.1 ≠ l) → (xs.foldl putT D).atKey (.string l) z = D.atKey (.string l) z ∧ Maps.has (xs.foldl putT D) (.string l) = Maps.has D (.string l)
 | [], _, _, _ => ⟨rfl, rfl⟩
 | x :: xs, D, z, h => by
  have hne : (Lit.string l) ≠ Lit.string x.1 := fun e => h x (List.mem_cons_self ..) (Lit.string.inj e).symm;obtain ⟨h1, h2⟩ := zDY xs (putT D x) z (fun y hy => h y (List.mem_cons_of_mem _ hy));exact ⟨h1.trans (Maps.atKey_put_other hne _ _), h2.trans (Maps.has_put_other hne _)⟩
theorem zFF (l : List UInt8) : WideAt.IsKeyLit (Lit.string l) := trivial
theorem zMo (l : List UInt8) : ((mapT 21).atKey (.string l) (.lit (.int .i64 0)) = .lit (.int .i64 (((kD.find? fun x => decide (x.1 = l)).map (·.2)).getD 0))) ∧ Maps.has (mapT 21) (.string l) = (kD.find? fun x => decide (x.1 = l)).isSome := by
 have hm : mapT 21 = kD.foldl putT (.map []) := rfl;rw [hm]
 by_cases h : ∃ x ∈ kD, x.1 = l
 ·obtain ⟨x, hx, rfl⟩ := h
  obtain ⟨i, hi⟩ := List.getElem?_of_mem hx;have hil : i < 21 := (zK.1 hi).1;have H : ∀ i : Fin 21, ((kD.drop (i.val + 1)).all fun y => decide (y.1 ≠ (kD[i.val]'i.isLt).1)) = true ∧ (kD.find? fun y => decide (y.1 = (kD[i.val]'i.isLt).1)) = some (kD[i.val]'i.isLt) := by decide +kernel
  obtain ⟨H1, H2⟩ := H ⟨i, hil⟩;have hxe : kD[i]'hil = x := (zK.1 hi).2;simp only [hxe] at H1 H2;rw [H2]
  have e : kD = kD.take i ++ x :: kD.drop (i + 1) := by
   rw [← zK.1 hi |>.2, List.getElem_cons_drop, List.take_append_drop]
  have hd : ∀ y ∈ kD.drop (i + 1), y.1 ≠ x.1 := fun y hy => of_decide_eq_true (List.all_eq_true.1 H1 y hy)
  have ef : kD.foldl putT (.map []) = (kD.drop (i + 1)).foldl putT (putT ((kD.take i).foldl putT (.map [])) x) := by
   conv => lhs; rw [e, List.foldl_append, List.foldl_cons]
  rw [ef];obtain ⟨h1, h2⟩ := zDY (kD.drop (i + 1)) (putT ((kD.take i).foldl putT (.map [])) x) (.lit (.int .i64 0)) hd;have hM := zFG (kD.take i) (.map []) Maps.isMap_empty;exact ⟨h1.trans (Maps.atKey_put_same hM (zFF _) _ _), h2.trans (Maps.has_put_same hM (zFF _) _)⟩
 ·have hn : ∀ x ∈ kD, x.1 ≠ l := fun x hx e => h ⟨x, hx, e⟩
  have hf : (kD.find? fun x => decide (x.1 = l)) = none := List.find?_eq_none.2 (fun x hx => by simpa using hn x hx);rw [hf];obtain ⟨h1, h2⟩ := zDY kD (.map []) (.lit (.int .i64 0)) hn;exact ⟨h1, h2⟩
def offT (k : Nat) : Nat := [0, 0, 1, 2, 3, 4, 5, 6, 7, 8, 9, 10, 12, 14, 16, 19, 20, 21].getD k 0
def lenT (k : Nat) : Nat := [0, 1, 1, 1, 1, 1, 1, 1, 1, 1, 1, 2, 2, 2, 3, 1, 1].getD k 0
theorem zKR {k : Nat} (h : k < 17) : offT (k + 1) = offT k + lenT k := by
 have H : ∀ k : Fin 17, offT (k.val + 1) = offT k.val + lenT k.val := by decide
 exact H ⟨k, h⟩
theorem zDW {k m : Nat} (h : k < 17) (hm : m < lenT k) : offT k + m < 21 ∧ m < 3 := by
 have H : ∀ k : Fin 17, offT k.val + lenT k.val ≤ 21 ∧ lenT k.val ≤ 3 := by decide
 have := H ⟨k, h⟩;constructor
 ·have := this.1; simp only at this; omega
 ·have := this.2; simp only at this; omega
theorem zMm {k m : Nat} (h : k < 17) (hm : m < lenT k) : ∃ nm, kD[offT k + m]? = some (nm, (k : Int)) ∧ nm.length ≤ 10 ∧ ∃ cs : Array Value, vX[k - 1]? = some (.cells cs 9) ∧ cs[m]? = some (.string ⟨nm.toArray⟩) ∧ 1 ≤ k := by
 have hm3 := (zDW h hm).2;have e1 : k = 0 ∨ k = 1 ∨ k = 2 ∨ k = 3 ∨ k = 4 ∨ k = 5 ∨ k = 6 ∨ k = 7 ∨ k = 8 ∨ k = 9 ∨ k = 10 ∨ k = 11 ∨ k = 12 ∨ k = 13 ∨ k = 14 ∨ k = 15 ∨ k = 16 := by omega
 have e2 : m = 0 ∨ m = 1 ∨ m = 2 := by omega
 clear h hm3;rcases e1 with rfl | rfl | rfl | rfl | rfl | rfl | rfl | rfl | rfl | rfl | rfl | rfl | rfl | rfl | rfl | rfl | rfl <;> rcases e2 with rfl | rfl | rfl <;> first | exact absurd hm jA | exact ⟨_, rfl, by decide, _, rfl, rfl, by decide⟩
end Go.Proofs.Qw
namespace Go.Proofs.YtjgeadoncanheaaGreatDoor
open Go.RowKit
open Go.Proofs.Qw
open _root_.Go.Proofs.Tryz renaming prog → zV
theorem zIT (c : Int) (w : World) (h1 : 0 ≤ c) (h2 : c ≤ 1114111) :
  Calls zV 229 #[.int .i32 c] w fun e w' => e = .returned (.int .i32 (lowR c)) ∧ w' = w := by
 have e1 : ∀ c : Int, 0 ≤ c → c ≤ 1114111 → IntKind.i32.wrap (c + 97) = c + 97 := fun c h1 h2 => IntWalk.i32_in _ qE;unfold lowR;go_enter Tryz.func229, Tryz.ntmps229;go_wp2_with fail
 all_goals
  go_ret;refine ⟨?_, rfl⟩;refine congrArg Ending.returned (zBe ?_)
 all_goals first
  | rfl
  | (rw [if_pos ⟨by assumption, by assumption⟩]; rfl)
  | omega
  | (rw [if_neg qE]; rfl)
theorem zIf (w : World) : MapGrows zV 229 #[] lowR w := fun W x hx _ => (zIT (x : Int) W qE qE).mono fun _ _ ⟨h1, h2⟩ => ⟨h1, h2 ▸ Below.refl _ _⟩
theorem zJN (s : ByteArray) (w : World) (he : EnvT w) (hs : s.size ≤ 1000000) :
  Calls zV 193 #[.string s] w fun e w' => e = .returned (.string ⟨(Lib.mapD lowR s.data.toList).toArray⟩) ∧ Below w.heap.size w w' := by
 have HC : Hid (∀ W, EnvT W → Calls zV 81 #[.func (.func 229) #[] #[], .string s] W fun e w' => e = .returned (.string ⟨(Lib.mapD lowR s.data.toList).toArray⟩) ∧ Below W.heap.size W w') := Lib.hid fun W hW =>
  Tryz.strings_Map_grows 229 #[] (enters_of Tryz.func229 qC rfl) lowR s W qE (zIf W) zDB hW.2
 go_enter Tryz.func193, Tryz.ntmps193;go_wp2_with (go_at_call 81; refine (HC.out _ he).mono ?_; rintro e w2 ⟨rfl, hb2⟩);go_ret;exact ⟨rfl, hb2⟩
theorem zJl (c : Int) (w : World) (h1 : 0 ≤ c) (h2 : c ≤ 1114111) :
  Calls zV 82 #[.int .i32 c] w fun e w' => e = .returned (.int .i32 (lowR c)) ∧ w' = w := by
 have e1 : ∀ c : Int, 0 ≤ c → c ≤ 1114111 → IntKind.i32.wrap (c + 97) = c + 97 := fun c h1 h2 => IntWalk.i32_in _ qE;unfold lowR;go_enter Tryz.func82, Tryz.ntmps82;go_wp2_with fail
 all_goals
  go_ret;refine ⟨?_, rfl⟩;refine congrArg Ending.returned (zBe ?_)
 all_goals first
  | rfl
  | (rw [if_pos ⟨by assumption, by assumption⟩]; rfl)
  | omega
  | (rw [if_neg qE]; rfl)
theorem zIv (w : World) : MapGrows zV 82 #[] lowR w := fun W x hx _ => (zJl (x : Int) W qE qE).mono fun _ _ ⟨h1, h2⟩ => ⟨h1, h2 ▸ Below.refl _ _⟩
theorem zFz (s : ByteArray) (w : World) (he : EnvT w) (hs : s.size ≤ 1000000) :
  Calls zV 40 #[.string s] w fun e w' => e = .returned (.string ⟨(Lib.mapD lowR s.data.toList).toArray⟩) ∧ Below w.heap.size w w' := by
 have HC : Hid (∀ W, EnvT W → Calls zV 81 #[.func (.func 82) #[] #[], .string s] W fun e w' => e = .returned (.string ⟨(Lib.mapD lowR s.data.toList).toArray⟩) ∧ Below W.heap.size W w') := Lib.hid fun W hW =>
  Tryz.strings_Map_grows 82 #[] (enters_of Tryz.func82 qC rfl) lowR s W qE (zIv W) zDB hW.2
 go_enter Tryz.func40, Tryz.ntmps40;go_wp2_with (go_at_call 81; refine (HC.out _ he).mono ?_; rintro e w2 ⟨rfl, hb2⟩);go_ret;exact ⟨rfl, hb2⟩
end Go.Proofs.YtjgeadoncanheaaGreatDoor
namespace Go.Proofs.YtjgeadoncanheaaGreatDoor
open Go.RowKit
open Go.Proofs.Qw
attribute [local go_sem] Oper.semAt_some
open _root_.Go.Lib renaming hid → zA
open _root_.Nat renaming le_refl → zC
open _root_.Go.RowKit.Below renaming refl → zE
open _root_.Go.Proofs.Tryz renaming prog → zV
open _root_.Go.Proofs.YtjgeadoncanheaaGreatDoor renaming jI → zY, jF → qF
def zBJ (n k : Nat) : Value := .slice (if k = 0 then none else some ⟨n + k, 0, none⟩) (lenT k) (lenT k)
def zBh (k : Nat) : Int := [1, 2, 3, 3, 3, 3, 2, 2, 2, 3, 4, 4, 4, 4, 4, 4, 5].getD k 0
set_option maxRecDepth 100000 in
theorem zFU (n : Nat) : ∀ k : Nat, k < 17 → ∀ w, (Instr.index 108 (.agg (tagV n)) (.int .i64 k)).run zV w = .ok (.agg #[zBJ n k, .int .i64 (zBh k)]) w := fun k hk w => by
 have e1 : k = 0 ∨ k = 1 ∨ k = 2 ∨ k = 3 ∨ k = 4 ∨ k = 5 ∨ k = 6 ∨ k = 7 ∨ k = 8 ∨ k = 9 ∨ k = 10 ∨ k = 11 ∨ k = 12 ∨ k = 13 ∨ k = 14 ∨ k = 15 ∨ k = 16 := by omega
 clear hk;rcases e1 with rfl | rfl | rfl | rfl | rfl | rfl | rfl | rfl | rfl | rfl | rfl | rfl | rfl | rfl | rfl | rfl | rfl <;> rfl
set_option maxRecDepth 100000 in
theorem zIe (w : World) : Calls zV 192 #[] w fun e w' => e = .returned (.map (some w.heap.size)) ∧ w'.ownsMap zV 9 (plainElem zV 3) w.heap.size 21 (mapT 21) ∧ Below w.heap.size w w' := by
 have hmm := @run_makeMap zV;have hW1 : (w.alloc (.map #[] 0)).ownsMap zV 9 (plainElem (H := Unit) zV 3) w.heap.size 0 (.map []) := World.ownsMap_made w _ _ _;obtain ⟨W1, hWe⟩ : ∃ W1, w.alloc (.map #[] 0) = W1 := ⟨_, rfl⟩;rw [hWe] at hW1;have hB1 : Below w.heap.size w W1 := hWe ▸ (zE _ _).alloc (zC _) _;have hz1 : W1.heap.size = w.heap.size + 1 := by rw [← hWe]; simp
 have HWe := zA hWe;have HM := zA hW1;have HB1 := zA hB1;clear hWe hW1 hB1;go_enter Tryz.func192, Tryz.ntmps192;go_wp2_with (go_at_call 99; rw [HWe.out]; refine (zEG _).mono ?_; rintro e w2 ⟨rfl, hb2, ho2⟩);have hIx : ∀ (k : Nat), k < 17 → ∀ X, (Instr.index 108 (.agg (tagV (w.heap.size + 1))) (.int .i64 k)).run zV X = .ok (.agg #[zBJ (w.heap.size + 1) k, .int .i64 (zBh k)]) X := fun k hk X => zFU _ k hk X;have HIx := zA hIx;have HO2 := zA ho2;have HM2 : Hid (w2.ownsMap zV 9 (plainElem (H := Unit) zV 3) w.heap.size 0 (.map [])) := zA (HM.out.kept (zBT hb2) qT);have HB2 := zA (HB1.out.trans (hb2.mono HB1.out.size));have HOb : Hid (∀ (k : Nat) (o : Obj), vX[k]? = some o → w2.heap[w.heap.size + 1 + (k + 1)]? = some o) := zA fun k o hk => by rw [← hz1]; exact ho2 k o hk
 have hz2 := hb2.size;clear hIx ho2 hb2 hmm;go_loopw [8, 2, 3, 5, 15] (fun z _ _ _ _ wr => ∃ k : Nat, k ≤ 17 ∧ z = .int .i64 k ∧ Hid (wr.ownsMap zV 9 (plainElem (H := Unit) zV 3) w.heap.size (offT k) (mapT (offT k))) ∧ Hid (Below w.heap.size w wr) ∧ Hid (∀ (k : Nat) (o : Obj), vX[k]? = some o → wr.heap[w.heap.size + 1 + (k + 1)]? = some o) ∧ w2.heap.size ≤ wr.heap.size) (fun z _ _ _ _ _ => 17 - (intOf z).toNat)
 case atStart => exact ⟨0, by omega, rfl, HM2, HB2, HOb, zC _⟩
 case round =>
  obtain ⟨k, hk, rfl, HMk, HBk, HOk, hzk⟩ := hrel
  by_cases hlt : k < 17
  ·have hix := HIx.out k hlt
   have i1 : (k : Int) < 17 := by omega
   unfold zBJ at hix;obtain ⟨ad, had⟩ : ∃ ad, (if k = 0 then none else some (⟨w.heap.size + 1 + k, 0, none⟩ : Addr)) = ad := ⟨_, rfl⟩;rw [had] at hix
   have HAD : Hid (0 < lenT k → ad = some ⟨w.heap.size + 1 + k, 0, none⟩) := zA fun h => by
    rw [← had, if_neg];rintro rfl;exact absurd h jA
   clear had;obtain ⟨ln, hln⟩ : ∃ n, lenT k = n := ⟨_, rfl⟩;rw [hln] at hix HAD;obtain ⟨cl, hcl⟩ : ∃ c, zBh k = c := ⟨_, rfl⟩;rw [hcl] at hix;clear hcl;have HLN := zA hln;have HLT := zA hlt;clear hln hlt;go_wp2_with fail;obtain ⟨wa, hwa⟩ : ∃ wa, wr.alloc (.cells #[.slice ad ln ln, .int .i64 cl] 82) = wa := ⟨_, rfl⟩;rw [hwa];have hba : Below wr.heap.size wr wa := hwa ▸ (zE _ _).alloc (zC _) _;have HMa : Hid (wa.ownsMap zV 9 (plainElem (H := Unit) zV 3) w.heap.size (offT k + 0) (mapT (offT k + 0))) := zA (hwa ▸ HMk.out.alloc _);have hza := hba.size;have HBa := zA (HBk.out.trans (hba.mono HBk.out.size));have HOa : Hid (∀ (k : Nat) (o : Obj), vX[k]? = some o → wa.heap[w.heap.size + 1 + (k + 1)]? = some o) := zA fun k o hk => jG hba (HOk.out k o hk);clear hwa hba;go_loopw [15, 5] (fun z _ wr => ∃ m : Nat, m ≤ ln ∧ z = .int .i64 m ∧ Hid (wr.ownsMap zV 9 (plainElem (H := Unit) zV 3) w.heap.size (offT k + m) (mapT (offT k + m))) ∧ Hid (Below w.heap.size w wr) ∧ Hid (∀ (k : Nat) (o : Obj), vX[k]? = some o → wr.heap[w.heap.size + 1 + (k + 1)]? = some o) ∧ w2.heap.size ≤ wr.heap.size) (fun z _ _ => ln - (intOf z).toNat)
   case atStart => exact ⟨0, by omega, rfl, HMa, HBa, HOa, by omega⟩
   case round =>
    obtain ⟨m, hm, rfl, HMm, HBm, HOm, hzm⟩ := hrel
    by_cases hlt2 : m < ln
    ·have HLT2 := zA hlt2
     obtain ⟨nm, ht1, hn1, cs, ht2, ht3, hk1⟩ := zMm HLT.out (by rw [HLN.out]; exact hlt2 : m < lenT k);have had := HAD.out qE;subst had;have hcell := HOm.out (k - 1) _ ht2;rw [show w.heap.size + 1 + (k - 1 + 1) = w.heap.size + 1 + k by omega] at hcell;obtain ⟨p1, f1⟩ := blk hcell;have c1 : wr.cell? ⟨w.heap.size + 1 + k, m, none⟩ = some (.string ⟨nm.toArray⟩) := (p1 m).trans ht3;have HN := zA (And.intro ht1 hn1);have j0 : (0 : Int) ≤ (m : Int) := Int.natCast_nonneg _;have j1 : (m : Int) < (ln : Int) := by omega
     have hroom : offT k + m < maxLen := by
      have := (zDW HLT.out (by rw [HLN.out]; exact hlt2 : m < lenT k)).1;unfold maxLen
      omega
     have hkw : (Lit.int .i64 (k : Int)).wf = true := by
      have H : ∀ k : Fin 17, (Lit.int .i64 (k.val : Int)).wf = true := by decide
      exact H ⟨k, HLT.out⟩
     have HUP := zA (And.intro hroom hkw);have hm3 : m < 3 := (zDW HLT.out (by rw [HLN.out]; exact hlt2 : m < lenT k)).2;clear p1 f1 hcell ht1 ht2 ht3 hn1 hroom hkw
     go_wp2_with (first
      | (at_mapUpdate; go_must (refine wpList_mapUpdate_own _ rfl _ _ _ 198 rfl 9 3 (Maps.string_keyed Tryz.underlying9) Tryz.underlying198 (plainElem (H := Unit) zV 3) w.heap.size (offT k + m) (mapT (offT k + m)) rfl HMm.out HUP.out.1 (.string ⟨nm.toArray⟩) (.int .i64 k) (.string nm) rfl rfl (Go.WideMaps.keyOf_string_mk Tryz.underlying9 (by show nm.toArray.size ≤ maxLen; simp [maxLen]; have := HN.out.2; omega)) (.lit (.int .i64 k)) [] (plainElem_int Tryz.underlying3 HUP.out.2) ?_; intro w5 hown5 hg5)))
     go_roundw
     case rel =>
      refine ⟨m + 1, HLT2.out, by go_num, zA ?_, zA (HBm.out.grown hg5 (by have := HBm.out.size; omega) (fun j e => by cases e; exact zC _)), zA (fun j o h => (hg5.block _ (Array.getElem?_eq_some_iff.1 (HOm.out j o h)).1 (by intro e; have := Option.some.inj e; omega)).trans (HOm.out j o h)), by have := hg5.size; omega⟩;rw [show offT k + (m + 1) = offT k + m + 1 from rfl, zKV HN.out.1];exact hown5
     case measure => have := HLT2.out; simp [intOf]; omega
    ·obtain rfl : m = ln := by omega
     have HMn : Hid (wr.ownsMap zV 9 (plainElem (H := Unit) zV 3) w.heap.size (offT (k + 1)) (mapT (offT (k + 1)))) := zA (by rw [zKR HLT.out, HLN.out]; exact HMm.out);go_wp2_with fail;go_roundw
     case rel => exact ⟨k + 1, HLT.out, by have := HLT.out; go_num, HMn, HBm, HOm, hzm⟩
     case measure => have := HLT.out; simp [intOf]; omega
  ·obtain rfl : k = 17 := by omega
   go_wp2_with fail;go_ret;exact ⟨rfl, HMk.out, HBk.out⟩
theorem zJw (z : Int) : (Lib.encodeRune z).length ≤ 4 := by
 unfold Lib.encodeRune Lib.encodeRuneZ;rw [List.length_map]
 repeat' split
 all_goals simp
theorem zGb (f : Int → Int) : ∀ (n : Nat) (l : List UInt8), l.length ≤ n → (Lib.mapD f l).length ≤ 4 * l.length
 | 0, l, hn => by
  have : l = [] := List.eq_nil_of_length_eq_zero qE;subst this;simp [Lib.mapD_nil]
 | n + 1, l, hn => by
  by_cases hne : l = []
  ·subst hne
   simp [Lib.mapD_nil]
  ·have hw := Lib.decodeL_width l
   have hle := Lib.decodeL_le l hne;have ih := zGb f n (l.drop (Lib.decodeL l).2) zAP;rw [List.length_drop] at ih;rw [Lib.mapD_step f l hne, List.length_append]
   have hh : (if 0 ≤ f (Lib.decodeL l).1 then Lib.encodeRune (f (Lib.decodeL l).1) else []).length ≤ 4 := by
    split
    ·exact zJw _
    ·simp
   omega
theorem zEQ {α : Type} {p q : α → Bool} : ∀ (l : List α), (∀ x ∈ l, p x = q x) → l.find? p = l.find? q
 | [], _ => rfl
 | x :: l, h => by
  rw [List.find?_cons, List.find?_cons, h x (List.mem_cons_self ..), zEQ l (fun y hy => h y (List.mem_cons_of_mem _ hy))]
theorem zLA (l : List UInt8) : (kD.find? fun x => decide (x.1 = Lib.mapD lowR l)) = kD.find? fun x => decide (x.1 = l.map lowB) := by
 refine zEQ _ (fun x hx => ?_);have H : ∀ x ∈ kD, ∀ b ∈ x.1, b.toNat < 128 := by decide +kernel
 have := zBD l.length l x.1 (zC _) (H x hx);exact decide_eq_decide.2 ⟨fun e => (this.1 e.symm).symm, fun e => (this.2 e.symm).symm⟩
set_option maxRecDepth 100000 in
theorem zCa (s : ByteArray) (w : World) (he : EnvT w) (hs : s.size ≤ 1000000) :
  Calls zV 131 #[.string s] w fun e w' => e = .returned (.tuple #[.int .i64 ((tagF s.data.toList).getD 0), .bool (tagF s.data.toList).isSome]) ∧ Below w.heap.size w w' := by
 obtain ⟨ky, hky⟩ : ∃ k, Lib.mapD lowR s.data.toList = k := ⟨_, rfl⟩
 have hkl : ky.length ≤ maxLen := by
  have h1 := zGb lowR s.data.toList.length s.data.toList (zC _);rw [hky] at h1;have h2 : s.data.toList.length = s.size := Array.length_toList;unfold maxLen
  omega
 have HL : Hid (∀ W, Below w.heap.size w W → Calls zV 193 #[.string s] W fun e w' => e = .returned (.string ⟨ky.toArray⟩) ∧ Below W.heap.size W w') := zA fun W hW => by
  have := zJN s W (he.below hW) hs;rw [hky] at this;exact this
 have HT : Hid (tagF s.data.toList = (kD.find? fun x => decide (x.1 = ky)).map (·.2)) := zA (by
  unfold tagF;rw [← zLA, hky])
 have HK := zA hkl;clear hky hkl he;go_enter Tryz.func131, Tryz.ntmps131
 go_wp2_with (first
  | (go_at_call 192; refine (zIe _).mono ?_; rintro e w2 ⟨rfl, hown2, hb2⟩; have HO2 := zA hown2; clear hown2)
  | (go_at_call 193; refine (HL.out _ hb2).mono ?_; rintro e w3 ⟨rfl, hst3⟩; have HO3 := zA (HO2.out.kept (zBT hst3) qT); have hb3 := jH hb2 hst3)
  | (at_lookup; go_must (refine wpList_lookup_own_ok_int _ rfl _ _ 198 rfl 9 3 .i64 (Maps.string_keyed Tryz.underlying9) Tryz.underlying198 Tryz.underlying3 yI w.heap.size 21 (mapT 21) rfl HO3.out (.string ⟨ky.toArray⟩) (.string ky) rfl (Go.WideMaps.keyOf_string_mk Tryz.underlying9 (by show ky.toArray.size ≤ maxLen; simpa using HK.out)) ?_; intro c hc _)))
 go_ret2;obtain ⟨h1, h2⟩ := zMo ky;rw [h1] at hc;have hc' := Lit.int.inj (DataW.lit.inj hc);refine ⟨?_, hb3⟩;rw [HT.out];refine congrArg Ending.returned (congrArg Value.tuple ?_)
 show #[Value.int .i64 c, Value.bool (Maps.has (mapT 21) (Lit.string ky))] = _
 rw [h2, ← hc'.2, Option.isSome_map]
theorem zBQ (t : Int) (w : World) : Calls zV 132 #[.int .i64 t] w fun e w' => e = .returned (.int .i64 (if 3 ≤ t ∧ t ≤ 5 then t - 2 else 0)) ∧ Below w.heap.size w w' := by
 by_cases h : 3 ≤ t ∧ t ≤ 5
 ·rw [if_pos h]
  have : t = 3 ∨ t = 4 ∨ t = 5 := by omega
  rcases this with rfl | rfl | rfl
  all_goals
   go_enter Tryz.func132, Tryz.ntmps132;go_wp2_with fail;go_ret;exact ⟨rfl, zE _ _⟩
 ·rw [if_neg h]
  rcases (show t < 3 ∨ (3 ≤ t ∧ 5 < t) by omega) with h | ⟨h1, h2⟩
  all_goals
   go_enter Tryz.func132, Tryz.ntmps132;go_wp2_with fail;go_ret;exact ⟨rfl, zE _ _⟩
theorem zIU (k : Int) (hk : 0 ≤ k ∧ k ≤ 3) (w : World) : Calls zV 32 #[.int .i64 k] w fun e w' => e = .returned (.tuple #[.int .i64 (k + 2), .bool true]) ∧ Below w.heap.size w w' := by
 have : k = 0 ∨ k = 1 ∨ k = 2 ∨ k = 3 := by omega
 rcases this with rfl | rfl | rfl | rfl
 all_goals
  go_enter Tryz.func32, Tryz.ntmps32;go_wp2_with fail;go_ret2;exact ⟨rfl, zE _ _⟩
def zCH (n : Nat) : Array Value := #[.slice none 0 0, .slice (some ⟨n, 0, none⟩) 1 1, .slice (some ⟨n + 1, 0, none⟩) 1 1, .slice (some ⟨n + 1 + 1, 0, none⟩) 1 1, .slice (some ⟨n + 1 + 1 + 1, 0, none⟩) 1 1, .slice (some ⟨n + 1 + 1 + 1 + 1, 0, none⟩) 1 1, .slice (some ⟨n + 1 + 1 + 1 + 1 + 1, 0, none⟩) 1 1, .slice (some ⟨n + 1 + 1 + 1 + 1 + 1 + 1, 0, none⟩) 1 1, .slice (some ⟨n + 1 + 1 + 1 + 1 + 1 + 1 + 1, 0, none⟩) 1 1, .slice (some ⟨n + 1 + 1 + 1 + 1 + 1 + 1 + 1 + 1, 0, none⟩) 1 1, .slice (some ⟨n + 1 + 1 + 1 + 1 + 1 + 1 + 1 + 1 + 1, 0, none⟩) 1 1, .slice (some ⟨n + 1 + 1 + 1 + 1 + 1 + 1 + 1 + 1 + 1 + 1, 0, none⟩) 2 2, .slice (some ⟨n + 1 + 1 + 1 + 1 + 1 + 1 + 1 + 1 + 1 + 1 + 1, 0, none⟩) 2 2, .slice (some ⟨n + 1 + 1 + 1 + 1 + 1 + 1 + 1 + 1 + 1 + 1 + 1 + 1, 0, none⟩) 2 2, .slice (some ⟨n + 1 + 1 + 1 + 1 + 1 + 1 + 1 + 1 + 1 + 1 + 1 + 1 + 1, 0, none⟩) 3 3, .slice (some ⟨n + 1 + 1 + 1 + 1 + 1 + 1 + 1 + 1 + 1 + 1 + 1 + 1 + 1 + 1, 0, none⟩) 1 1, .slice (some ⟨n + 1 + 1 + 1 + 1 + 1 + 1 + 1 + 1 + 1 + 1 + 1 + 1 + 1 + 1 + 1, 0, none⟩) 1 1]
set_option maxRecDepth 100000 in
theorem zJZ (w : World) : ∃ W1, (((((((((((((((((w).alloc (.cells #[.string ⟨#[100, 105, 118]⟩] 9)).alloc (.cells #[.string ⟨#[112]⟩] 9)).alloc (.cells #[.string ⟨#[104, 49]⟩] 9)).alloc (.cells #[.string ⟨#[104, 50]⟩] 9)).alloc (.cells #[.string ⟨#[104, 51]⟩] 9)).alloc (.cells #[.string ⟨#[98, 108, 111, 99, 107, 113, 117, 111, 116, 101]⟩] 9)).alloc (.cells #[.string ⟨#[117, 108]⟩] 9)).alloc (.cells #[.string ⟨#[111, 108]⟩] 9)).alloc (.cells #[.string ⟨#[108, 105]⟩] 9)).alloc (.cells #[.string ⟨#[97]⟩] 9)).alloc (.cells #[.string ⟨#[98]⟩, .string ⟨#[115, 116, 114, 111, 110, 103]⟩] 9)).alloc (.cells #[.string ⟨#[105]⟩, .string ⟨#[101, 109]⟩] 9)).alloc (.cells #[.string ⟨#[117]⟩, .string ⟨#[105, 110, 115]⟩] 9)).alloc (.cells #[.string ⟨#[115]⟩, .string ⟨#[115, 116, 114, 105, 107, 101]⟩, .string ⟨#[100, 101, 108]⟩] 9)).alloc (.cells #[.string ⟨#[115, 112, 97, 110]⟩] 9)).alloc (.cells #[.string ⟨#[98, 114]⟩] 9)).alloc (.cells (zCH w.heap.size) 40) = W1 ∧ Below w.heap.size w W1 ∧ W1.heap[w.heap.size + 16]? = some (.cells (zCH w.heap.size) 40) ∧ W1.heap[w.heap.size]? = some (.cells #[.string ⟨#[100, 105, 118]⟩] 9) ∧ W1.heap[w.heap.size + 1]? = some (.cells #[.string ⟨#[112]⟩] 9) ∧ W1.heap[w.heap.size + 2]? = some (.cells #[.string ⟨#[104, 49]⟩] 9) ∧ W1.heap[w.heap.size + 3]? = some (.cells #[.string ⟨#[104, 50]⟩] 9) ∧ W1.heap[w.heap.size + 4]? = some (.cells #[.string ⟨#[104, 51]⟩] 9) ∧ W1.heap[w.heap.size + 5]? = some (.cells #[.string ⟨#[98, 108, 111, 99, 107, 113, 117, 111, 116, 101]⟩] 9) ∧ W1.heap[w.heap.size + 6]? = some (.cells #[.string ⟨#[117, 108]⟩] 9) ∧ W1.heap[w.heap.size + 7]? = some (.cells #[.string ⟨#[111, 108]⟩] 9) ∧ W1.heap[w.heap.size + 8]? = some (.cells #[.string ⟨#[108, 105]⟩] 9) ∧ W1.heap[w.heap.size + 9]? = some (.cells #[.string ⟨#[97]⟩] 9) ∧ W1.heap[w.heap.size + 10]? = some (.cells #[.string ⟨#[98]⟩, .string ⟨#[115, 116, 114, 111, 110, 103]⟩] 9) ∧ W1.heap[w.heap.size + 11]? = some (.cells #[.string ⟨#[105]⟩, .string ⟨#[101, 109]⟩] 9) ∧ W1.heap[w.heap.size + 12]? = some (.cells #[.string ⟨#[117]⟩, .string ⟨#[105, 110, 115]⟩] 9) ∧ W1.heap[w.heap.size + 13]? = some (.cells #[.string ⟨#[115]⟩, .string ⟨#[115, 116, 114, 105, 107, 101]⟩, .string ⟨#[100, 101, 108]⟩] 9) ∧ W1.heap[w.heap.size + 14]? = some (.cells #[.string ⟨#[115, 112, 97, 110]⟩] 9) ∧ W1.heap[w.heap.size + 15]? = some (.cells #[.string ⟨#[98, 114]⟩] 9) :=
 ⟨_, rfl, (((((((((((((((((zE _ _).alloc (zC _) _).alloc qT _).alloc jD _).alloc jD _).alloc jD _).alloc jD _).alloc jD _).alloc jD _).alloc jD _).alloc jD _).alloc jD _).alloc jD _).alloc jD _).alloc jD _).alloc jD _).alloc jD _).alloc jD _, qF _ _ qT, zY _ _ (zY _ _ (zY _ _ (zY _ _ (zY _ _ (zY _ _ (zY _ _ (zY _ _ (zY _ _ (zY _ _ (zY _ _ (zY _ _ (zY _ _ (zY _ _ (zY _ _ (zY _ _ (qF _ _ qT)))))))))))))))), zY _ _ (zY _ _ (zY _ _ (zY _ _ (zY _ _ (zY _ _ (zY _ _ (zY _ _ (zY _ _ (zY _ _ (zY _ _ (zY _ _ (zY _ _ (zY _ _ (zY _ _ (qF _ _ qT))))))))))))))), zY _ _ (zY _ _ (zY _ _ (zY _ _ (zY _ _ (zY _ _ (zY _ _ (zY _ _ (zY _ _ (zY _ _ (zY _ _ (zY _ _ (zY _ _ (zY _ _ (qF _ _ qT)))))))))))))), zY _ _ (zY _ _ (zY _ _ (zY _ _ (zY _ _ (zY _ _ (zY _ _ (zY _ _ (zY _ _ (zY _ _ (zY _ _ (zY _ _ (zY _ _ (qF _ _ qT))))))))))))), zY _ _ (zY _ _ (zY _ _ (zY _ _ (zY _ _ (zY _ _ (zY _ _ (zY _ _ (zY _ _ (zY _ _ (zY _ _ (zY _ _ (qF _ _ qT)))))))))))), zY _ _ (zY _ _ (zY _ _ (zY _ _ (zY _ _ (zY _ _ (zY _ _ (zY _ _ (zY _ _ (zY _ _ (zY _ _ (qF _ _ qT))))))))))), zY _ _ (zY _ _ (zY _ _ (zY _ _ (zY _ _ (zY _ _ (zY _ _ (zY _ _ (zY _ _ (zY _ _ (qF _ _ qT)))))))))), zY _ _ (zY _ _ (zY _ _ (zY _ _ (zY _ _ (zY _ _ (zY _ _ (zY _ _ (zY _ _ (qF _ _ qT))))))))), zY _ _ (zY _ _ (zY _ _ (zY _ _ (zY _ _ (zY _ _ (zY _ _ (zY _ _ (qF _ _ qT)))))))), zY _ _ (zY _ _ (zY _ _ (zY _ _ (zY _ _ (zY _ _ (zY _ _ (qF _ _ qT))))))), zY _ _ (zY _ _ (zY _ _ (zY _ _ (zY _ _ (zY _ _ (qF _ _ qT)))))), zY _ _ (zY _ _ (zY _ _ (zY _ _ (zY _ _ (qF _ _ qT))))), zY _ _ (zY _ _ (zY _ _ (zY _ _ (qF _ _ qT)))), zY _ _ (zY _ _ (zY _ _ (qF _ _ qT))), zY _ _ (zY _ _ (qF _ _ qT)), zY _ _ (qF _ _ qT)⟩
theorem zKT {w W : World} (h0 : W.heap[w.heap.size]? = some (.cells #[.string ⟨#[100, 105, 118]⟩] 9)) (h1 : W.heap[w.heap.size + 1]? = some (.cells #[.string ⟨#[112]⟩] 9)) (h2 : W.heap[w.heap.size + 2]? = some (.cells #[.string ⟨#[104, 49]⟩] 9)) (h3 : W.heap[w.heap.size + 3]? = some (.cells #[.string ⟨#[104, 50]⟩] 9)) (h4 : W.heap[w.heap.size + 4]? = some (.cells #[.string ⟨#[104, 51]⟩] 9)) (h5 : W.heap[w.heap.size + 5]? = some (.cells #[.string ⟨#[98, 108, 111, 99, 107, 113, 117, 111, 116, 101]⟩] 9)) (h6 : W.heap[w.heap.size + 6]? = some (.cells #[.string ⟨#[117, 108]⟩] 9)) (h7 : W.heap[w.heap.size + 7]? = some (.cells #[.string ⟨#[111, 108]⟩] 9)) (h8 : W.heap[w.heap.size + 8]? = some (.cells #[.string ⟨#[108, 105]⟩] 9)) (h9 : W.heap[w.heap.size + 9]? = some (.cells #[.string ⟨#[97]⟩] 9)) (h10 : W.heap[w.heap.size + 10]? = some (.cells #[.string ⟨#[98]⟩, .string ⟨#[115, 116, 114, 111, 110, 103]⟩] 9)) (h11 : W.heap[w.heap.size + 11]? = some (.cells #[.string ⟨#[105]⟩, .string ⟨#[101, 109]⟩] 9)) (h12 : W.heap[w.heap.size + 12]? = some (.cells #[.string ⟨#[117]⟩, .string ⟨#[105, 110, 115]⟩] 9)) (h13 : W.heap[w.heap.size + 13]? = some (.cells #[.string ⟨#[115]⟩, .string ⟨#[115, 116, 114, 105, 107, 101]⟩, .string ⟨#[100, 101, 108]⟩] 9)) (h14 : W.heap[w.heap.size + 14]? = some (.cells #[.string ⟨#[115, 112, 97, 110]⟩] 9)) (h15 : W.heap[w.heap.size + 15]? = some (.cells #[.string ⟨#[98, 114]⟩] 9)) : ∀ (k : Nat) (o : Obj), vX[k]? = some o → W.heap[w.heap.size + k]? = some o := fun k o hk => by
 have hk16 : k < 16 := (List.getElem?_eq_some_iff.1 hk).1
 match k, hk16, hk with
 | 0, _, hk => cases hk; exact h0
 | 1, _, hk => cases hk; exact h1
 | 2, _, hk => cases hk; exact h2
 | 3, _, hk => cases hk; exact h3
 | 4, _, hk => cases hk; exact h4
 | 5, _, hk => cases hk; exact h5
 | 6, _, hk => cases hk; exact h6
 | 7, _, hk => cases hk; exact h7
 | 8, _, hk => cases hk; exact h8
 | 9, _, hk => cases hk; exact h9
 | 10, _, hk => cases hk; exact h10
 | 11, _, hk => cases hk; exact h11
 | 12, _, hk => cases hk; exact h12
 | 13, _, hk => cases hk; exact h13
 | 14, _, hk => cases hk; exact h14
 | 15, _, hk => cases hk; exact h15
theorem zLL (n : Nat) {k : Nat} (h1 : 1 ≤ k) (h2 : k ≤ 16) : (zCH n)[k]? = some (.slice (some ⟨n + (k - 1), 0, none⟩) (lenT k) (lenT k)) := by
 have e : k = 1 ∨ k = 2 ∨ k = 3 ∨ k = 4 ∨ k = 5 ∨ k = 6 ∨ k = 7 ∨ k = 8 ∨ k = 9 ∨ k = 10 ∨ k = 11 ∨ k = 12 ∨ k = 13 ∨ k = 14 ∨ k = 15 ∨ k = 16 := by omega
 rcases e with rfl | rfl | rfl | rfl | rfl | rfl | rfl | rfl | rfl | rfl | rfl | rfl | rfl | rfl | rfl | rfl <;> rfl
set_option maxRecDepth 100000 in
theorem zIp (k : Nat) (hk1 : 1 ≤ k) (hk2 : k ≤ 16) (w : World) : Calls zV 66 #[.int .i64 k] w fun e w' => e = .returned (.slice (some ⟨w.heap.size + (k - 1), 0, none⟩) (lenT k) (lenT k)) ∧ Below w.heap.size w w' ∧ ∀ o, vX[k - 1]? = some o → w'.heap[w.heap.size + (k - 1)]? = some o := by
 obtain ⟨W1, hW1, hB, ht, h0, h1, h2, h3, h4, h5, h6, h7, h8, h9, h10, h11, h12, h13, h14, h15⟩ := zJZ w;have HO := zA (zKT h0 h1 h2 h3 h4 h5 h6 h7 h8 h9 h10 h11 h12 h13 h14 h15);have HC : Hid (W1.cell? ⟨w.heap.size + 16, k, none⟩ = _) := zA ((jS ht).trans (zLL _ hk1 hk2));have HB := zA hB;have HW := zA hW1;have i1 : ¬ (k : Int) < 0 := by omega
 have i2 : ¬ (16 : Int) < (k : Int) := by omega
 have i3 : (k : Int) < 17 := by omega
 have i0 : (0 : Int) ≤ (k : Int) := by omega
 have HK := zA (And.intro hk1 hk2);clear hW1 ht hB hk1 hk2 h0 h1 h2 h3 h4 h5 h6 h7 h8 h9 h10 h11 h12 h13 h14 h15;go_enter Tryz.func66, Tryz.ntmps66;go_upto_region 2 with (fail)
 unfold zCH at HW;rw [HW.out];have c0 := HC.out;clear HC HW;go_wp2_with fail;go_ret;exact ⟨rfl, HB.out, fun o ho => HO.out _ o ho⟩
end Go.Proofs.YtjgeadoncanheaaGreatDoor
namespace Go.Proofs.Qw
open Go.RowKit Go.Proofs.YtjgeadoncanheaaGreatDoor
open _root_.List renaming getElem?_eq_some_iff → zK
theorem uA {s : St} {i j : Nat} (h1 : (qV s).1.line = (i : Int)) (h2 : (qV s).2.line = (j : Int)) (k : Nat) : selI s k = (decide (i ≤ k) && decide (k ≤ j)) := by
 unfold selI;rw [h1, h2]
 congr 1
 ·exact decide_eq_decide.2 qE
 ·exact decide_eq_decide.2 qE
theorem zJJ {s : St} {i j : Nat} (h1 : (qV s).1.line = (i : Int)) (h2 : (qV s).2.line = (j : Int)) (f : Lin → Option Lin) : vF f s i = s.lines := by
 apply List.ext_getElem?
 intro n;unfold vF;rw [List.getElem?_mapIdx];cases s.lines[n]? with
 | none => rfl
 | some l =>
  simp only [Option.map_some];rw [uA h1 h2, if_neg]
  simp
  omega
theorem zLx {s : St} {i j : Nat} (h1 : (qV s).1.line = (i : Int)) (h2 : (qV s).2.line = (j : Int)) (hj : j < s.lines.length) (f : Lin → Option Lin) : vF f s (j + 1) = zBI f s := by
 apply List.ext_getElem?
 intro n;unfold zBI vF;rw [List.getElem?_mapIdx, List.getElem?_mapIdx];cases h : s.lines[n]? with
 | none => rfl
 | some l =>
  have hn := (zK.1 h).1;simp only [Option.map_some, Option.some.injEq];rw [uA h1 h2]
  have : (decide (i ≤ n) && decide (n ≤ j) && decide (n < j + 1)) = (decide (i ≤ n) && decide (n ≤ j) && decide (n < s.lines.length)) := by
   rw [decide_eq_true hn]
   by_cases h3 : n ≤ j
   ·rw [decide_eq_true h3, decide_eq_true (show n < j + 1 by omega)]
   ·rw [decide_eq_false h3]; simp
  rw [this]
theorem zDK {s : St} {i j : Nat} (h1 : (qV s).1.line = (i : Int)) (h2 : (qV s).2.line = (j : Int)) (p : Lin → Bool) : xY p s i = false := by
 unfold xY;rw [List.any_eq_false];intro k hk;rw [List.mem_range] at hk;rw [uA h1 h2, decide_eq_false qE]
 simp
theorem zDM {s : St} {i j : Nat} (h1 : (qV s).1.line = (i : Int)) (h2 : (qV s).2.line = (j : Int)) (p : Lin → Bool) : kP p s i = true := by
 unfold kP;rw [List.all_eq_true];intro k hk;rw [List.mem_range] at hk;rw [uA h1 h2, decide_eq_false qE]
 simp
theorem zGE {s : St} {i j : Nat} (h1 : (qV s).1.line = (i : Int)) (h2 : (qV s).2.line = (j : Int)) (p : Lin → Bool) : ∀ n, xY p s (j + 1 + n) = xY p s (j + 1)
 | 0 => rfl
 | n + 1 => by
  rw [← zGE h1 h2 p n];unfold xY;rw [show j + 1 + (n + 1) = (j + 1 + n) + 1 from rfl, List.range_succ, List.any_append];simp only [List.any_cons, List.any_nil, Bool.or_false];rw [uA h1 h2, decide_eq_false (show ¬ j + 1 + n ≤ j by omega)]
  simp
theorem zGG {s : St} {i j : Nat} (h1 : (qV s).1.line = (i : Int)) (h2 : (qV s).2.line = (j : Int)) (p : Lin → Bool) : ∀ n, kP p s (j + 1 + n) = kP p s (j + 1)
 | 0 => rfl
 | n + 1 => by
  rw [← zGG h1 h2 p n];unfold kP;rw [show j + 1 + (n + 1) = (j + 1 + n) + 1 from rfl, List.range_succ, List.all_append];simp only [List.all_cons, List.all_nil, Bool.and_true];rw [uA h1 h2, decide_eq_false (show ¬ j + 1 + n ≤ j by omega)]
  simp
theorem zGV {s : St} {i j : Nat} (h1 : (qV s).1.line = (i : Int)) (h2 : (qV s).2.line = (j : Int)) (hj : j < s.lines.length) (p : Lin → Bool) : xY p s (j + 1) = xY p s s.lines.length := by
 have := zGE h1 h2 p (s.lines.length - (j + 1));rw [show j + 1 + (s.lines.length - (j + 1)) = s.lines.length by omega] at this;exact this.symm
theorem zDZ {s : St} {i j : Nat} (h1 : (qV s).1.line = (i : Int)) (h2 : (qV s).2.line = (j : Int)) (hj : j < s.lines.length) (p : Lin → Bool) : kP p s (j + 1) = kP p s s.lines.length := by
 have := zGG h1 h2 p (s.lines.length - (j + 1));rw [show j + 1 + (s.lines.length - (j + 1)) = s.lines.length by omega] at this;exact this.symm
theorem zAT {s : St} (hm : mayS s = true) : ∃ i j : Nat, (qV s).1.line = (i : Int) ∧ (qV s).2.line = (j : Int) ∧ i ≤ j ∧ j < s.lines.length := by
 obtain ⟨hM, i, j, p, q, l, m, ha, hb, hl, hm', hp, hq, hij, hpq⟩ := uI (zGa hm);exact ⟨i, j, by rw [ha], by rw [hb], hij, (zK.1 hm').1⟩
def uP (p : Lin → Bool) (s : St) (k : Nat) : Nat := ((List.range k).filter fun i => selI s i && p (s.lines.getD i default)).length
theorem zFN (p : Lin → Bool) {s : St} {k : Nat} {l : Lin} (hl : s.lines[k]? = some l) : uP p s (k + 1) = uP p s k + if (selI s k && p l) = true then 1 else 0 := by
 unfold uP;rw [List.range_succ, List.filter_append, List.length_append]
 congr 1
 simp only [List.filter_cons, List.filter_nil, List.getD_eq_getElem?_getD, hl, Option.getD_some]
 split <;> rfl
theorem zDI (p : Lin → Bool) (s : St) (k : Nat) : decide (0 < uP p s k) = xY p s k := by
 unfold uP xY;rw [Bool.eq_iff_iff, decide_eq_true_eq, List.length_pos_iff_exists_mem, List.any_eq_true];constructor
 ·rintro ⟨x, hx⟩
  obtain ⟨h1, h2⟩ := List.mem_filter.1 hx;exact ⟨x, h1, h2⟩
 ·rintro ⟨x, h1, h2⟩
  exact ⟨x, List.mem_filter.2 ⟨h1, h2⟩⟩
theorem zGj {s : St} {i j : Nat} (h1 : (qV s).1.line = (i : Int)) (h2 : (qV s).2.line = (j : Int)) (hj : j < s.lines.length) (p : Lin → Bool) : ∀ n, i + n ≤ j + 1 → uP p s (i + n) ≤ n ∧ (uP p s (i + n) = n ↔ kP p s (i + n) = true)
 | 0, _ => by
  have h3 : uP p s i = 0 := by
   have := zDI p s i;rw [zDK h1 h2, decide_eq_false_iff_not] at this
   omega
  have h4 := zDM h1 h2 p;exact ⟨by show uP p s i ≤ 0; omega, fun _ => h4, fun _ => h3⟩
 | n + 1, h => by
  obtain ⟨h3, h4⟩ := zGj h1 h2 hj p n qE;have hl : s.lines[i + n]? = some s.lines[i + n] := List.getElem?_eq_getElem qE;have hs : selI s (i + n) = true := by rw [uA h1 h2, decide_eq_true qE, decide_eq_true qE]; rfl
  rw [show i + (n + 1) = (i + n) + 1 from rfl, zFN p hl, zDT p hl, hs];simp only [Bool.true_and, Bool.not_true, Bool.false_or];cases hp : p s.lines[i + n]
  ·simp only [Bool.and_false, Bool.false_eq_true, if_false, iff_false]
   omega
  ·simp only [Bool.and_true, if_true]
   constructor
   ·omega
   ·rw [← h4]; omega
def vM (k : Int) : List UInt8 := if k = 0 then [112] else if k = 1 then [104, 49] else if k = 2 then [104, 50] else if k = 3 then [104, 51] else []
def xM (s : St) (name : List UInt8) : List UInt8 := match jT name with
 | some k => if k = 12 then (match kB s with | some q => vM q | none => []) else if k = 9 then vT s else []
 | none => []
def zAN (name arg : List UInt8) : List UInt8 × Bool := match jT name with
 | some k => if (cmds.getD k default).data = 1 then (arg, true) else ([], true)
 | none => ([], false)
theorem zGx {α : Type} (f : α → Bool) : ∀ (l : List α) (k : Nat), jW f k l = match l.findIdx? f with | some i => ((k + i : Nat) : Int) | none => -1
 | [], _ => rfl
 | x :: l, k => by
  rw [jW, List.findIdx?_cons];cases h : f x with
  | true => rw [if_pos rfl]; rfl
  | false =>
   rw [if_neg qT, zGx f l (k + 1)];simp only [Bool.false_eq_true, if_false];cases l.findIdx? f with
   | none => rfl
   | some i => show ((k + 1 + i : Nat) : Int) = ((k + (i + 1) : Nat) : Int); omega
def kM (name : List UInt8) : Nat := (jT name).getD 0
theorem zLX (name : List UInt8) : jW (fun c : Cmd => decide (Lib.mapD lowR c.name = Lib.mapD lowR name)) 0 cmds = match jT name with | some k => (k : Int) | none => -1 := by
 rw [zGx]
 have e : cmds.findIdx? (fun c : Cmd => decide (Lib.mapD lowR c.name = Lib.mapD lowR name)) = jT name := by
  unfold jT
  have H : ∀ (l : List Cmd), (∀ c ∈ l, ∀ b ∈ c.name, b.toNat < 128) → l.findIdx? (fun c : Cmd => decide (Lib.mapD lowR c.name = Lib.mapD lowR name)) = l.findIdx? (fun c : Cmd => decide (c.name.map lowB = name.map lowB)) := fun l => by
   induction l with
   | nil => intro _; rfl
   | cons c l ih =>
    intro h;rw [List.findIdx?_cons, List.findIdx?_cons, ih (fun c hc => h c (List.mem_cons_of_mem _ hc)), decide_eq_decide.2 (zMO (h c (List.mem_cons_self ..)) name)]
  exact H cmds zKr
 rw [e];cases jT name with
 | none => rfl
 | some k => show ((0 + k : Nat) : Int) = _; rw [Nat.zero_add]
end Go.Proofs.Qw
namespace Go.Proofs.YtjgeadoncanheaaGreatDoor
open Go.RowKit
open Go.Proofs.Qw
attribute [local go_sem] Oper.semAt_some
open _root_.Go.Lib renaming hid → zA
open _root_.Nat renaming le_refl → zC
open _root_.Go.RowKit.Below renaming refl → zE
open _root_.Go.BigFrame renaming wpQuiet_want → zI
open _root_.Go.Act renaming put → zU
open _root_.Go.Proofs.Tryz renaming prog → zV
open _root_.Go.Proofs.YtjgeadoncanheaaGreatDoor renaming jH → zW
open _root_.Go.Proofs.Qw renaming xB → qK
set_option maxRecDepth 100000 in
theorem zMF (n : Nat) {k : Nat} {c : Cmd} (h : cmds[k]? = some c) : (tabV n)[k * 4]? = some (.string ⟨c.name.toArray⟩) ∧ (tabV n)[k * 4 + 1]? = some (.string ⟨c.input.toArray⟩) ∧ (tabV n)[k * 4 + 2]? = some (.int .i64 c.data) ∧ ∃ g caps, (zAM n)[k]? = some (.func (.func g) #[] caps) ∧ (tabV n)[k * 4 + 3]? = some (.func (.func g) #[] caps) := by
 have hk := (List.getElem?_eq_some_iff.1 h).1;have e1 : k = 0 ∨ k = 1 ∨ k = 2 ∨ k = 3 ∨ k = 4 ∨ k = 5 ∨ k = 6 ∨ k = 7 ∨ k = 8 ∨ k = 9 ∨ k = 10 ∨ k = 11 ∨ k = 12 ∨ k = 13 ∨ k = 14 ∨ k = 15 ∨ k = 16 := by have : k < 17 := hk; omega
 clear hk;rcases e1 with rfl | rfl | rfl | rfl | rfl | rfl | rfl | rfl | rfl | rfl | rfl | rfl | rfl | rfl | rfl | rfl | rfl <;> (cases h; exact ⟨rfl, rfl, rfl, _, _, rfl, rfl⟩)
theorem zIw (c : Cmd) (g : Nat) (caps : Array Value) (name : ByteArray) (Bn : Nat) (w : World) (he : EnvT w) (hc : c.name.length ≤ 1000) (hs : name.size ≤ 1000000) (hB : w.heap[Bn]? = some (.cells #[.string name] 9)) :
  Calls zV 39 #[.agg #[.string ⟨c.name.toArray⟩, .string ⟨c.input.toArray⟩, .int .i64 c.data, .func (.func g) #[] caps], .pointer (some ⟨Bn, 0, none⟩)] w fun e w' => e = .returned (.bool (decide (Lib.mapD lowR c.name = Lib.mapD lowR name.data.toList))) ∧ Below w.heap.size w w' := by
 obtain ⟨a, ha⟩ : ∃ a, Lib.mapD lowR c.name = a := ⟨_, rfl⟩;obtain ⟨b, hb⟩ : ∃ a, Lib.mapD lowR name.data.toList = a := ⟨_, rfl⟩
 have HL1 : Hid (∀ W, Below w.heap.size w W → Calls zV 40 #[.string ⟨c.name.toArray⟩] W fun e w' => e = .returned (.string ⟨a.toArray⟩) ∧ Below W.heap.size W w') := zA fun W hW => by
  have := zFz ⟨c.name.toArray⟩ W (he.below hW) (by show c.name.toArray.size ≤ _; simp; omega);rw [show (⟨c.name.toArray⟩ : ByteArray).data.toList = c.name from rfl, ha] at this;exact this
 have HL2 : Hid (∀ W, Below w.heap.size w W → Calls zV 40 #[.string name] W fun e w' => e = .returned (.string ⟨b.toArray⟩) ∧ Below W.heap.size W w') := zA fun W hW => by
  have := zFz name W (he.below hW) hs;rw [hb] at this;exact this
 rw [ha, hb];obtain ⟨W1, hW1⟩ : ∃ W1, w.alloc (.cells #[.string ⟨c.name.toArray⟩, .string ⟨c.input.toArray⟩, .int .i64 c.data, .func (.func g) #[] caps] 63) = W1 := ⟨_, rfl⟩;have hB1 : Below w.heap.size w W1 := hW1 ▸ (zE _ _).alloc (zC _) _;have H1 := zA hB1;have HF : Hid (∀ W, Below W1.heap.size W1 W → W.heap[w.heap.size]? = some (.cells #[.string ⟨c.name.toArray⟩, .string ⟨c.input.toArray⟩, .int .i64 c.data, .func (.func g) #[] caps] 63) ∧ W.heap[Bn]? = some (.cells #[.string name] 9)) := zA fun W hW => ⟨jG hW (hW1 ▸ jF _ _ rfl), jG hW (jG hB1 hB)⟩;have hs1 := hB1.size;have HW1 := zA hW1;clear he ha hb hB hB1 hW1;go_enter Tryz.func39, Tryz.ntmps39;go_wp2_with fail;rw [HW1.out];refine kZ W1.heap.size qC qC ?_;refine zI qC (fun K hK => ?_);refine qK ?_ (fun W hW => ?_) (hK _ ?_);rotate_left 1
 ·skip
  go_simp
  try rfl
 clear hK;clear K;try simp only [zU, qI, qX, qY]
 refine zI qC (fun K hK => ?_);refine qK ?_ (fun W hW => ?_) (hK _ ?_);rotate_left 1
 ·skip
  go_simp
  try rfl
 clear hK;clear K;try simp only [zU, qI, qX, qY]
 refine zI qC (fun K hK => ?_);refine qK ?_ (fun W hW => ?_) (hK _ ?_);rotate_left 1
 ·obtain ⟨p0, f0⟩ := blk (HF.out _ hW).1
  go_simp
  try rfl
 clear hK;clear K;try simp only [zU, qI, qX, qY]
 refine zI qC (fun K hK => ?_);refine yX (f := ?_) (args := ?_) ?_ (fun W hW => ?_) (fun W hW => ?_) (hK _ ?_);rotate_left 3
 ·go_simp
  constructor <;> rfl
 ·refine (HL1.out _ (zW H1.out hW)).mono ?_
  rintro e W2 ⟨rfl, hbW⟩;refine ⟨?_, zW hW hbW⟩
  rfl
 clear hK;clear K;try simp only [zU, qI, qX, qY]
 refine zI qC (fun K hK => ?_);refine qK ?_ (fun W hW => ?_) (hK _ ?_);rotate_left 1
 ·obtain ⟨p0, f0⟩ := blk (HF.out _ hW).2
  go_simp
  try rfl
 clear hK;clear K;try simp only [zU, qI, qX, qY]
 refine zI qC (fun K hK => ?_);refine yX (f := ?_) (args := ?_) ?_ (fun W hW => ?_) (fun W hW => ?_) (hK _ ?_);rotate_left 3
 ·go_simp
  constructor <;> rfl
 ·refine (HL2.out _ (zW H1.out hW)).mono ?_
  rintro e W2 ⟨rfl, hbW⟩;refine ⟨?_, zW hW hbW⟩
  rfl
 clear hK;clear K;try simp only [zU, qI, qX, qY]
 refine zI qC (fun K hK => ?_);refine qK ?_ (fun W hW => ?_) (hK _ ?_);rotate_left 1
 ·skip
  go_simp
  try rfl
 clear hK;clear K;try simp only [zU, qI, qX, qY]
 refine zI qC (fun K hK => ?_);refine qK ?_ (fun W hW => ?_) (hK _ ?_);rotate_left 1
 ·skip
  go_simp
  try rfl
 clear hK;clear K;try simp only [zU, qI, qX, qY]
 refine wpQuiet_nil (fun X6 hstX6 => ?_);go_wp2_with fail;go_ret;refine ⟨?_, H1.out.trans (hstX6.mono hs1)⟩;refine congrArg (fun b => Ending.returned (Value.bool b)) ?_
 by_cases e : a = b
 ·simp [e]
 ·simp [e]
theorem zIC (b n : Nat) (f : Cmd → Bool) (g : Nat) (lb : Array Value) (eg : ∀ args w, (callFunc g args).run zV w = .ok (.enter g args) w) (w : World) (he : EnvT w) (hb : w.heap[b]? = some (.cells (tabV n) 64))
  (hf : ∀ (i : Nat) (c : Cmd) (h : Nat) (caps : Array Value) (W : World), cmds[i]? = some c → EnvT W → Below w.heap.size w W → Calls zV g (#[.agg #[.string ⟨c.name.toArray⟩, .string ⟨c.input.toArray⟩, .int .i64 c.data, .func (.func h) #[] caps]] ++ lb) W fun e w' => e = .returned (.bool (f c)) ∧ Below W.heap.size W w') :
  Calls zV 38 #[.slice (some ⟨b, 0, none⟩) 17 17, .func (.func g) #[] lb] w fun e w' => e = .returned (.int .i64 (jW f 0 cmds)) ∧ Below w.heap.size w w' := by
 have HF := zA hf;have HBB := zA hb;have HN : Hid (jW f 0 cmds = jW f 0 (cmds.drop 0)) := zA rfl;obtain ⟨D, hD⟩ : ∃ D, cmds = D := ⟨_, rfl⟩;have hDl : D.length = 17 := hD ▸ rfl;have HTA : Hid (∀ (k : Nat) (c : Cmd), D[k]? = some c → (tabV n)[k * 4]? = some (.string ⟨c.name.toArray⟩) ∧ (tabV n)[k * 4 + 1]? = some (.string ⟨c.input.toArray⟩) ∧ (tabV n)[k * 4 + 2]? = some (.int .i64 c.data) ∧ ∃ g caps, (zAM n)[k]? = some (.func (.func g) #[] caps) ∧ (tabV n)[k * 4 + 3]? = some (.func (.func g) #[] caps)) := zA fun k c h => zMF n (by rw [hD]; exact h);rw [hD] at HF HN;rw [hD];have hlt := (Array.getElem?_eq_some_iff.1 hb).1;clear hf hb hD
 generalize tabV n = TV at *
 go_enter Tryz.func38, Tryz.ntmps38;go_wp2_with fail;go_loopw [8] (fun i wr => ∃ k : Nat, k ≤ 17 ∧ i = .int .i64 k ∧ jW f 0 D = jW f k (D.drop k) ∧ Below w.heap.size w wr) (fun i _ => 17 - (intOf i).toNat)
 case atStart => exact ⟨0, Nat.zero_le _, rfl, HN.out, zE _ _⟩
 case round =>
  obtain ⟨k, hk, rfl, hg, hbw⟩ := hrel
  by_cases hlt2 : k < 17
  ·obtain ⟨l, hl, hd⟩ := jJ D k qE
   obtain ⟨t0, t1, t2, h, caps, _, t3⟩ := HTA.out k l hl;obtain ⟨p0, f0⟩ := blk (jG hbw HBB.out);have c0 := (p0 (k * 4)).trans t0;have c1 := (p0 (k * 4 + 1)).trans t1;have c2 := (p0 (k * 4 + 2)).trans t2;have c3 := (p0 (k * 4 + 3)).trans t3;obtain ⟨r, hr⟩ : ∃ r, f l = r := ⟨_, rfl⟩;have HG : Hid (jW f 0 D = if r = true then (k : Int) else jW f (k + 1) (D.drop (k + 1))) := zA (by rw [hg, hd, jW, hr]);have HC := zA (HF.out k l h caps wr hl (he.below hbw) hbw);have HLT := zA hlt2;rw [hr] at HC;have i1 : (k : Int) < 17 := by omega
   clear hd hl hg hr p0 f0 t0 t1 t2 t3;go_wp2_with (go_at_fn g; refine HC.out.mono ?_; rintro e w1 ⟨rfl, hb1⟩; cases r)
   ·go_roundw
    case rel => exact ⟨k + 1, HLT.out, by go_num, HG.out, zW hbw hb1⟩
    case measure => have := HLT.out; simp [intOf]; omega
   ·go_ret
    refine ⟨?_, zW hbw hb1⟩;rw [HG.out]
    rfl
  ·obtain rfl : k = 17 := by omega
   have HG : Hid (jW f 0 D = -1) := zA (by rw [hg, List.drop_eq_nil_of_le qE]; rfl);clear hg;go_wp2_with fail;go_ret;rw [HG.out];exact ⟨rfl, hbw⟩
set_option maxRecDepth 100000 in
theorem zAD (name : ByteArray) (w : World) (he : EnvT w) (hs : name.size ≤ 1000000) :
  Calls zV 15 #[.string name] w fun e w' => e = .returned (.tuple #[.int .i64 (kM name.data.toList), .bool (jT name.data.toList).isSome]) ∧ Below w.heap.size w w' := by
 obtain ⟨W1, hW1⟩ : ∃ W1, w.alloc (.cells #[.string name] 9) = W1 := ⟨_, rfl⟩;have hB1 : Below w.heap.size w W1 := hW1 ▸ (zE _ _).alloc (zC _) _;have hz1 : w.heap.size < W1.heap.size := by rw [← hW1]; simp
 have HN1 : Hid (∀ W, Below W1.heap.size W1 W → W.heap[w.heap.size]? = some (.cells #[.string name] 9)) := zA fun W hW => jG hW (hW1 ▸ jF _ _ rfl);have HE := zA (he.below hB1);have H1 := zA hB1;have HW1 := zA hW1
 have HI : Hid (∀ (W : World) (b n : Nat), Below W1.heap.size W1 W → W.heap[b]? = some (.cells (tabV n) 64) → Calls zV 38 #[.slice (some ⟨b, 0, none⟩) 17 17, .func (.func 39) #[] #[.pointer (some ⟨w.heap.size, 0, none⟩)]] W fun e w' => e = .returned (.int .i64 (match jT name.data.toList with | some k => (k : Int) | none => -1)) ∧ Below W.heap.size W w') := zA fun W b n hW hb => by
  have := zIC b n (fun c => decide (Lib.mapD lowR c.name = Lib.mapD lowR name.data.toList)) 39 #[.pointer (some ⟨w.heap.size, 0, none⟩)] (enters_of Tryz.func39 qC rfl) W ((he.below hB1).below hW) hb
   (fun i c h caps W' hc hE hW' => zIw c h caps name w.heap.size W' hE (by
    have H : ∀ c ∈ cmds, c.name.length ≤ 1000 := by decide +kernel
    exact H c (List.mem_of_getElem? hc)) hs (HN1.out W' (zW hW hW')))
  rw [zLX] at this;exact this
 have hs1 := hB1.size;clear hW1 hB1 he;obtain ⟨r, hr⟩ : ∃ r, jT name.data.toList = r := ⟨_, rfl⟩;have HFN := zA (show kM name.data.toList = r.getD 0 by unfold kM; rw [hr]);rw [hr] at HI ⊢;rw [HFN.out];clear hr;cases r
 ·go_enter Tryz.func15, Tryz.ntmps15
  go_wp2_with (first
   | (go_at_call 37; rw [HW1.out]; refine (zBz _).mono ?_; rintro e w2 ⟨rfl, hb2, _⟩)
   | (refine wpList_store_row rfl 64 _ _ rfl w2.heap.size (tabV W1.heap.size) rfl rfl 64 _ (jF _ _ rfl) qC qC qC ?_
      have ht3 := setRow_heap (w2.alloc (.cells Tryz.zeroCells64 64)) w2.heap.size _ (tabV W1.heap.size) 64 _ (jF _ _ rfl);obtain ⟨w3, hw3⟩ : ∃ w3, (w2.alloc (.cells Tryz.zeroCells64 64)).setRow w2.heap.size (tabV W1.heap.size) = w3 := ⟨_, rfl⟩;have hst3 : Below w2.heap.size w2 w3 := hw3 ▸ zBW ((zE _ _).alloc (zC _) _) (zC _);rw [hw3] at ht3 ⊢;have hb3 := zW hb2 hst3;have HT3 := zA ht3;clear hw3 ht3)
   | (go_at_call 38; refine (HI.out _ _ _ hb3 HT3.out).mono ?_; rintro e w4 ⟨rfl, hst4⟩; have hb4 := zW hb3 hst4))
  go_ret2;exact ⟨rfl, H1.out.trans (hb4.mono hs1)⟩
 ·rename_i k
  have hk0 : ¬ (k : Int) < 0 := by omega
  go_enter Tryz.func15, Tryz.ntmps15
  go_wp2_with (first
   | (go_at_call 37; rw [HW1.out]; refine (zBz _).mono ?_; rintro e w2 ⟨rfl, hb2, _⟩)
   | (refine wpList_store_row rfl 64 _ _ rfl w2.heap.size (tabV W1.heap.size) rfl rfl 64 _ (jF _ _ rfl) qC qC qC ?_
      have ht3 := setRow_heap (w2.alloc (.cells Tryz.zeroCells64 64)) w2.heap.size _ (tabV W1.heap.size) 64 _ (jF _ _ rfl);obtain ⟨w3, hw3⟩ : ∃ w3, (w2.alloc (.cells Tryz.zeroCells64 64)).setRow w2.heap.size (tabV W1.heap.size) = w3 := ⟨_, rfl⟩;have hst3 : Below w2.heap.size w2 w3 := hw3 ▸ zBW ((zE _ _).alloc (zC _) _) (zC _);rw [hw3] at ht3 ⊢;have hb3 := zW hb2 hst3;have HT3 := zA ht3;clear hw3 ht3)
   | (go_at_call 38; refine (HI.out _ _ _ hb3 HT3.out).mono ?_; rintro e w4 ⟨rfl, hst4⟩; have hb4 := zW hb3 hst4))
  go_ret2;exact ⟨rfl, H1.out.trans (hb4.mono hs1)⟩
end Go.Proofs.YtjgeadoncanheaaGreatDoor
namespace Go.Proofs.Qw
open Go.RowKit Go.Proofs.YtjgeadoncanheaaGreatDoor
def rowT (f : Lin → Option Lin) (s : St) (D : Doc) (i : Nat) : Doc := match s.lines[i]? with | some l => (match f l with | some l' => D.set i l' | none => D) | none => D
def vU (f : Lin → Option Lin) (s : St) (is : List Nat) : Doc := is.foldl (rowT f s) s.lines
def kI (s : St) (i : Nat) : Lin := s.lines.getD i default
theorem zFH (f : Lin → Option Lin) (s : St) (is : List Nat) (i : Nat) : vU f s (is ++ [i]) = rowT f s (vU f s is) i := by simp [vU]
theorem zLE (f : Lin → Option Lin) (s : St) (D : Doc) (i : Nat) : (rowT f s D i).length = D.length := by
 unfold rowT
 split
 ·split
  ·simp
  ·rfl
 ·rfl
theorem zLb (f : Lin → Option Lin) (s : St) (is : List Nat) : (vU f s is).length = s.lines.length := by
 have H : ∀ (is : List Nat) (D : Doc), (is.foldl (rowT f s) D).length = D.length := fun is => by
  induction is with
  | nil => intro D; rfl
  | cons i is ih => intro D; rw [List.foldl_cons, ih, zLE]
 exact H is s.lines
theorem zBx (i n : Nat) : List.range' i (n + 1) = List.range' i n ++ [i + n] := by rw [List.range'_concat]; simp
theorem zGf {s : St} {i j : Nat} (h1 : (qV s).1.line = (i : Int)) (h2 : (qV s).2.line = (j : Int)) (hj : j < s.lines.length) (f : Lin → Option Lin) : ∀ n, i + n ≤ j + 1 → vU f s (List.range' i n) = vF f s (i + n)
 | 0, _ => (zJJ h1 h2 f).symm
 | n + 1, h => by
  have hl : s.lines[i + n]? = some s.lines[i + n] := List.getElem?_eq_getElem qE;have hs : selI s (i + n) = true := by rw [uA h1 h2, decide_eq_true qE, decide_eq_true qE]; rfl
  rw [zBx, zFH, zGf h1 h2 hj f n qE, show i + (n + 1) = (i + n) + 1 from rfl, zKD hl, if_pos hs];unfold rowT;rw [hl];simp only;cases hf : f s.lines[i + n] with
  | some l' => rfl
  | none =>
   simp only [Option.getD_none]
   have ht : (vF f s (i + n))[i + n]? = some s.lines[i + n] := by
    rw [zBE hl, if_neg qT]
   apply List.ext_getElem?
   intro k
   by_cases hk : k = i + n
   ·subst hk
    rw [ht, List.getElem?_set_self (by rw [zBC]; omega)]
   ·rw [List.getElem?_set_ne qE]
theorem zKj {s : St} {i j : Nat} (h1 : (qV s).1.line = (i : Int)) (h2 : (qV s).2.line = (j : Int)) (hij : i ≤ j) (hj : j < s.lines.length) (f : Lin → Option Lin) : vU f s (List.range' i (j + 1 - i)) = zBI f s := by
 rw [zGf h1 h2 hj f (j + 1 - i) qE, show i + (j + 1 - i) = j + 1 by omega, zLx h1 h2 hj]
theorem zGD {s : St} {i j : Nat} (h1 : (qV s).1.line = (i : Int)) (h2 : (qV s).2.line = (j : Int)) (hj : j < s.lines.length) (p : Lin → Bool) : ∀ n, i + n ≤ j + 1 → (List.range' i n).any (fun k => p (kI s k)) = xY p s (i + n)
 | 0, _ => (zDK h1 h2 p).symm
 | n + 1, h => by
  have hl : s.lines[i + n]? = some s.lines[i + n] := List.getElem?_eq_getElem qE;have hs : selI s (i + n) = true := by rw [uA h1 h2, decide_eq_true qE, decide_eq_true qE]; rfl
  rw [zBx, List.any_append, zGD h1 h2 hj p n qE, show i + (n + 1) = (i + n) + 1 from rfl, zMf p hl, hs];simp [kI, List.getD_eq_getElem?_getD, hl]
theorem zGF {s : St} {i j : Nat} (h1 : (qV s).1.line = (i : Int)) (h2 : (qV s).2.line = (j : Int)) (hj : j < s.lines.length) (p : Lin → Bool) : ∀ n, i + n ≤ j + 1 → (List.range' i n).all (fun k => p (kI s k)) = kP p s (i + n)
 | 0, _ => (zDM h1 h2 p).symm
 | n + 1, h => by
  have hl : s.lines[i + n]? = some s.lines[i + n] := List.getElem?_eq_getElem qE;have hs : selI s (i + n) = true := by rw [uA h1 h2, decide_eq_true qE, decide_eq_true qE]; rfl
  rw [zBx, List.all_append, zGF h1 h2 hj p n qE, show i + (n + 1) = (i + n) + 1 from rfl, zDT p hl, hs];simp [kI, List.getD_eq_getElem?_getD, hl]
theorem zGo {s : St} {i j : Nat} (h1 : (qV s).1.line = (i : Int)) (h2 : (qV s).2.line = (j : Int)) (hij : i ≤ j) (hj : j < s.lines.length) (p : Lin → Bool) : (List.range' i (j + 1 - i)).any (fun k => p (kI s k)) = xY p s s.lines.length := by
 rw [zGD h1 h2 hj p (j + 1 - i) qE, show i + (j + 1 - i) = j + 1 by omega, zGV h1 h2 hj]
theorem zGq {s : St} {i j : Nat} (h1 : (qV s).1.line = (i : Int)) (h2 : (qV s).2.line = (j : Int)) (hij : i ≤ j) (hj : j < s.lines.length) (p : Lin → Bool) : (List.range' i (j + 1 - i)).all (fun k => p (kI s k)) = kP p s s.lines.length := by
 rw [zGF h1 h2 hj p (j + 1 - i) qE, show i + (j + 1 - i) = j + 1 by omega, zDZ h1 h2 hj]
def zAe (x : Option Int) (l : Lin) : Option Int := match x with | some k => if l.lists ≠ [] ∨ (0 ≤ k ∧ l.kind ≠ k) then none else some l.kind | none => none
def uD (ls : List Lin) : Option Int := ls.foldl zAe (some (-1))
theorem zKk (ls : List Lin) (l : Lin) : uD (ls ++ [l]) = zAe (uD ls) l := by simp [uD]
theorem zCf (ls : List Lin) : ls.foldl zAe none = none := by
 induction ls with
 | nil => rfl
 | cons l ls ih => exact ih
theorem zIG {a b : List Lin} (h : a <+: b) (ha : uD a = none) : uD b = none := by
 obtain ⟨c, rfl⟩ := h;unfold uD at ha ⊢;rw [List.foldl_append, ha, zCf]
theorem zGg : ∀ (ls : List Lin) (k : Int), 0 ≤ k → (∀ l ∈ ls, 0 ≤ l.kind) → ls.foldl zAe (some k) = if ls.all (fun l => decide (l.lists = []) && decide (l.kind = k)) = true then some k else none
 | [], k, _, _ => rfl
 | l :: ls, k, hk, hl => by
  rw [List.foldl_cons, List.all_cons]
  by_cases h1 : l.lists = []
  ·by_cases h2 : l.kind = k
   ·have e : zAe (some k) l = some k := by
     show (if l.lists ≠ [] ∨ (0 ≤ k ∧ l.kind ≠ k) then none else some l.kind) = some k
     rw [if_neg (fun h => h.elim (fun h => h h1) (fun h => h.2 h2)), h2]
    rw [e, zGg ls k hk (fun x hx => hl x (List.mem_cons_of_mem _ hx))];simp [h1, h2]
   ·have e : zAe (some k) l = none := by
     show (if l.lists ≠ [] ∨ (0 ≤ k ∧ l.kind ≠ k) then none else some l.kind) = none
     rw [if_pos (.inr ⟨hk, h2⟩)]
    rw [e, zCf, if_neg (by simp [h2])]
  ·have e : zAe (some k) l = none := by
    show (if l.lists ≠ [] ∨ (0 ≤ k ∧ l.kind ≠ k) then none else some l.kind) = none
    rw [if_pos (.inl h1)]
   rw [e, zCf, if_neg (by simp [h1])]
theorem zLc (l : Lin) (ls : List Lin) (h : ∀ x ∈ l :: ls, 0 ≤ x.kind) : uD (l :: ls) = if (l :: ls).all (fun x => decide (x.lists = []) && decide (x.kind = l.kind)) = true then some l.kind else none := by
 unfold uD;rw [List.foldl_cons, List.all_cons]
 by_cases h1 : l.lists = []
 ·have e : zAe (some (-1)) l = some l.kind := by
   show (if l.lists ≠ [] ∨ (0 ≤ (-1 : Int) ∧ l.kind ≠ -1) then none else some l.kind) = some l.kind
   rw [if_neg (fun h => h.elim (fun h => h h1) (fun h => absurd h.1 jA))]
  rw [e, zGg ls l.kind (h l (List.mem_cons_self ..)) (fun x hx => h x (List.mem_cons_of_mem _ hx))];simp [h1]
 ·have e : zAe (some (-1)) l = none := by
   show (if l.lists ≠ [] ∨ (0 ≤ (-1 : Int) ∧ l.kind ≠ -1) then none else some l.kind) = none
   rw [if_pos (.inl h1)]
  rw [e, zCf, if_neg (by simp [h1])]
theorem zKY {s : St} (hm : mayS s = true) {i j : Nat} (h1 : (qV s).1.line = (i : Int)) (h2 : (qV s).2.line = (j : Int)) (hij : i ≤ j) (hj : j < s.lines.length) : kB s = uD ((List.range' i (j + 1 - i)).map (kI s)) := by
 have hk : ∀ k, k < s.lines.length → 0 ≤ (kI s k).kind := fun k hk => by
  have hl : s.lines[k]? = some s.lines[k] := List.getElem?_eq_getElem hk;have := (zFE ((uY.1 (vY hm).1).2.2.2 _ (vL hl))).2.2.2.1;unfold kI;rw [List.getD_eq_getElem?_getD, hl];exact this
 have hli : yG s.lines (qV s).1 = kI s i := by
  unfold yG kI;rw [h1]
  rfl
 unfold kB;rw [if_pos hm, hli, ← zGq h1 h2 hij hj (fun l => decide (l.lists = []) && decide (l.kind = (kI s i).kind))];obtain ⟨n, hn⟩ : ∃ n, j + 1 - i = n + 1 := ⟨j - i, by omega⟩
 rw [hn, show List.range' i (n + 1) = i :: List.range' (i + 1) n from rfl, List.map_cons, zLc _ _ (fun x hx => by
  rw [← List.map_cons, ← show List.range' i (n + 1) = i :: List.range' (i + 1) n from rfl] at hx;obtain ⟨k, hk1, rfl⟩ := List.mem_map.1 hx;have := List.mem_range'_1.1 hk1;exact hk k qE)]
 congr 1
 rw [← List.map_cons, List.all_map]
 rfl
end Go.Proofs.Qw
namespace Go.Proofs.YtjgeadoncanheaaGreatDoor
open Go.RowKit
open Go.Proofs.Qw
attribute [local go_sem] Oper.semAt_some
open _root_.Go.Lib renaming hid → zA
open _root_.Nat renaming le_refl → zC
open _root_.Go renaming bodyPost_ret → zM
open _root_.List renaming length_append → zS
open _root_.Go.Proofs.Tryz renaming prog → zV
open _root_.Go.Proofs.Qw.SliceR renaming stable → qG
structure SelX (w0 : World) (S : Nat → Prop) (s : St) where
 i : Nat
 l : Lin
 la : Option Addr
 lc : Nat
 ca : Option Addr
 cc : Nat
 row : s.lines[i]? = some l
 hl : jL false w0 S (.slice la l.lists.length lc) l.lists
 hc : jE false w0 S (.slice ca l.cells.length cc) l.cells
def zAv {w0 : World} {S : Nat → Prop} {s : St} (x : SelX w0 S s) : Array Value := #[.int .i64 x.i, linV x.l (.slice x.la x.l.lists.length x.lc) (.slice x.ca x.l.cells.length x.cc)]
theorem zCZ (va : Option Addr) (vn vc : Nat) (s : St) (w : World) :
  Calls zV 46 #[stV (.slice va vn vc) s] w fun e w' => e = .returned (.func (.func 87) #[] #[.pointer (some ⟨w.heap.size, 0, none⟩)]) ∧
   w' = w.alloc (.cells #[.slice va vn vc, .int .i64 s.anc.line, .int .i64 s.anc.col, .int .i64 s.foc.line, .int .i64 s.foc.col, .int .i64 s.on, .int .i64 s.off] 26) := by
 go_enter Tryz.func46, Tryz.ntmps46;go_wp2_with fail;go_ret;exact ⟨rfl, rfl⟩
set_option maxRecDepth 200000 in
theorem zDV (n l Bs base : Nat) (v : Value) (s : St) (i j : Nat) (S : Nat → Prop) (w0 W : World) (J Jx : List (SelX w0 S s) → World → Prop) (hv : jC w0 S v s.lines) (hb0 : Below w0.heap.size w0 W)
  (hbase : base ≤ Bs) (hbw : base ≤ W.heap.size) (hA : W.heap[Bs]? = some (.cells #[v, .int .i64 s.anc.line, .int .i64 s.anc.col, .int .i64 s.foc.line, .int .i64 s.foc.col, .int .i64 s.on, .int .i64 s.off] 26))
  (hi : (qV s).1.line = (i : Int)) (hj : (qV s).2.line = (j : Int)) (hij : i ≤ j) (hjl : j < s.lines.length) (hlen : s.lines.length ≤ 100000) (hJ : AbidesFrom W.heap.size J)
  (hY : ∀ (pre : List (SelX w0 S s)) (x : SelX w0 S s) W, J pre W → pre.length < 200000 → YieldAt Fence.wide (n - 1) zV l (zAv x) W fun e W' =>
   (e = .returned (.bool true) ∧ J (pre ++ [x]) W' ∧ Kp w0.heap.size base W W') ∨ (e = .returned (.bool false) ∧ Jx (pre ++ [x]) W'))
  (h0 : J [] W) :
  CallsIn Fence.wide n zV 87 #[.func (.yield l) #[] #[], .pointer (some ⟨Bs, 0, none⟩)] W fun e W' => (∃ v, e = .returned v) ∧
   ((∃ ys : List (SelX w0 S s), ys.map (·.i) = List.range' i (j + 1 - i) ∧ J ys W') ∨ (∃ pre : List (SelX w0 S s), (pre.map (·.i) = List.range' i pre.length ∧ pre.length ≤ j + 1 - i) ∧ Jx pre W')) := by
 refine callsIn_of_wp Tryz.func87 rfl trivial ?_ rfl;simp only [Tryz.ntmps87, List.size_toArray, List.length_cons, List.length_nil, Nat.reduceAdd, Nat.reduceSub, Array.replicate_succ, Array.replicate_zero, List.push_toArray, List.append_toArray, List.nil_append, List.cons_append];have hwf : ∀ f, Fence.wide.fn f := fun _ => trivial;have hwd : Fence.wide.depth = none := rfl;obtain ⟨va, vc, rfl, hvc, hvm, hx⟩ := kJ hv;have HX := zA hx;have HY := zA hY;have HJA := zA hJ;have HBS := zA hA;have HB0 := zA hb0
 have HSp : Hid (∀ W, Calls zV 49 #[stV (.slice va s.lines.length vc) s] W fun e w' => e = .returned (.tuple #[.agg #[.int .i64 i, .int .i64 (qV s).1.col], .agg #[.int .i64 j, .int .i64 (qV s).2.col]]) ∧ Below W.heap.size W w') := zA fun W => by
  have := zAk (.slice va s.lines.length vc) s W;rw [hi, hj] at this;exact this
 obtain ⟨ci, hci⟩ : ∃ c, (qV s).1.col = c := ⟨_, rfl⟩;obtain ⟨cj, hcj⟩ : ∃ c, (qV s).2.col = c := ⟨_, rfl⟩;rw [hci, hcj] at HSp;obtain ⟨p1, f1⟩ := blk hA;unfold maxLen at hvm;clear hx hv hY hJ hA hi hj hci hcj
 gi_wp2_with (gi_at_call 49; refine (callsIn_wide.2 (HSp.out _)).mono ?_; rintro e W2 ⟨rfl, hb2⟩; have HB2 := zA hb2; clear hb2)
 obtain ⟨W3, hW3⟩ : ∃ W3, ((W2.alloc (.cells #[.int .i64 i, .int .i64 ci] 24)).alloc (.cells #[.int .i64 j, .int .i64 cj] 24)) = W3 := ⟨_, rfl⟩;rw [hW3];have hb3 : Below W.heap.size W W3 := hW3 ▸ (HB2.out.alloc HB2.out.size _).alloc (by have := HB2.out.size; simp; omega) _;have HF3 : Hid (W3.heap[W2.heap.size]? = some (.cells #[.int .i64 i, .int .i64 ci] 24) ∧ W3.heap[W2.heap.size + 1]? = some (.cells #[.int .i64 j, .int .i64 cj] 24)) := zA (hW3 ▸ ⟨jI _ _ (jF _ _ rfl), jF _ _ qT⟩);have hz2 := HB2.out.size;have HJ3 := zA (zAR HJA.out h0 hb3);have HS3 := zA (jG hb3 HBS.out);have HB3 := zA (jH HB0.out hb3);have hz3 := hb3.size;have HZ3 := zA hz3;clear hW3 hb3 h0 hb0 p1 f1
 gi_loopw [5] (fun z wr => ∃ (k : Nat) (pre : List (SelX w0 S s)), i ≤ k ∧ k ≤ j + 1 ∧ i + pre.length = k ∧ z = .int .i64 k ∧ Hid (pre.map (·.i) = List.range' i pre.length) ∧ J pre wr ∧ Below w0.heap.size w0 wr ∧ Hid (wr.heap[Bs]? = some (.cells #[.slice va s.lines.length vc, .int .i64 s.anc.line, .int .i64 s.anc.col, .int .i64 s.foc.line, .int .i64 s.foc.col, .int .i64 s.on, .int .i64 s.off] 26) ∧ wr.heap[W2.heap.size]? = some (.cells #[.int .i64 i, .int .i64 ci] 24) ∧ wr.heap[W2.heap.size + 1]? = some (.cells #[.int .i64 j, .int .i64 cj] 24)) ∧ W.heap.size ≤ wr.heap.size)
  (fun z _ => j + 1 - (intOf z).toNat)
 case atStart => exact ⟨i, [], zC _, by omega, rfl, rfl, zA rfl, HJ3.out, HB3.out, zA ⟨HS3.out, HF3.out⟩, HZ3.out⟩
 case round =>
  obtain ⟨k, pre, hk1, hk2, hpl, rfl, HP, hJs, hb1, HBL, hz1⟩ := hrel;obtain ⟨p1, f1⟩ := blk HBL.out.1;obtain ⟨p2, f2⟩ := blk HBL.out.2.1;obtain ⟨p3, f3⟩ := blk HBL.out.2.2
  by_cases hlt : k ≤ j
  ·obtain ⟨l0, hl0, _⟩ := jJ s.lines k qE
   obtain ⟨b, o, la, lc, ca, cc, rfl, hAk⟩ := HX.out k l0 hl0;obtain ⟨_, c0, c1, c2, c3, _, _⟩ := hAk.below hb1;have i0 : (0 : Int) ≤ (k : Int) := Int.natCast_nonneg _;have i1 : (k : Int) < (s.lines.length : Int) := by omega
   have i2 : (k : Int) ≤ (j : Int) := by omega
   have hYY := HY.out pre ⟨k, l0, la, lc, ca, cc, hl0, hAk.listsR, hAk.cellsR⟩ wr hJs qE
   have HNX : Hid (∀ w7, J (pre ++ [⟨k, l0, la, lc, ca, cc, hl0, hAk.listsR, hAk.cellsR⟩]) w7 → Kp w0.heap.size base wr w7 → ∃ (k' : Nat) (pre : List (SelX w0 S s)), i ≤ k' ∧ k' ≤ j + 1 ∧ i + pre.length = k' ∧ k' = k + 1 ∧ Hid (pre.map (·.i) = List.range' i pre.length) ∧ J pre w7 ∧ Below w0.heap.size w0 w7 ∧ Hid (w7.heap[Bs]? = some (.cells #[.slice (some ⟨b, o, none⟩) s.lines.length vc, .int .i64 s.anc.line, .int .i64 s.anc.col, .int .i64 s.foc.line, .int .i64 s.foc.col, .int .i64 s.on, .int .i64 s.off] 26) ∧ w7.heap[W2.heap.size]? = some (.cells #[.int .i64 i, .int .i64 ci] 24) ∧ w7.heap[W2.heap.size + 1]? = some (.cells #[.int .i64 j, .int .i64 cj] 24)) ∧ W.heap.size ≤ w7.heap.size) := zA (by
    intro w7 hj7 hk7;refine ⟨k + 1, _, by omega, by omega, by simp; omega, rfl, zA ?_, hj7, hb1.trans hk7.below, zA ⟨hk7.cells _ _ hbase HBL.out.1 rfl, hk7.cells _ _ qE HBL.out.2.1 rfl, hk7.cells _ _ qE HBL.out.2.2 rfl⟩, Nat.le_trans hz1 hk7.below.size⟩;rw [List.map_append, HP.out, zS, List.length_singleton, zBx];exact congrArg (List.range' i pre.length ++ ·) (by show [k] = [i + pre.length]; rw [hpl]))
   have HPX : Hid ((pre ++ [⟨k, l0, la, lc, ca, cc, hl0, hAk.listsR, hAk.cellsR⟩] : List (SelX w0 S s)).map (·.i) = List.range' i (pre ++ [⟨k, l0, la, lc, ca, cc, hl0, hAk.listsR, hAk.cellsR⟩] : List (SelX w0 S s)).length ∧ (pre ++ [⟨k, l0, la, lc, ca, cc, hl0, hAk.listsR, hAk.cellsR⟩] : List (SelX w0 S s)).length ≤ j + 1 - i) := zA ⟨by
    rw [List.map_append, HP.out, zS, List.length_singleton, zBx];exact congrArg (List.range' i pre.length ++ ·) (by show [k] = [i + pre.length]; rw [hpl]), by rw [zS, List.length_singleton]; omega⟩
   generalize (pre ++ [⟨k, l0, la, lc, ca, cc, hl0, hAk.listsR, hAk.cellsR⟩] : List (SelX w0 S s)) = pre2 at *
   unfold zAv linV at hYY;obtain ⟨fn, tmps, assign, body, hy, hR⟩ := hYY;clear hJs
   gi_wp2_with fail
   refine hR.mono ?_;rintro e w7 (⟨rfl, hJ7, hk7⟩ | ⟨rfl, hJx7⟩)
   ·gi_wp2_with fail
    obtain ⟨k', pre', g1, g2, g3, e3, g4, g5, g6, g7, g8⟩ := HNX.out w7 hJ7 hk7;go_roundw
    case rel => exact ⟨k', pre', g1, g2, g3, by rw [e3]; go_num, g4, g5, g6, g7, g8⟩
    case measure => simp [intOf]; omega
   ·gi_wp2_with fail
    refine zM (results_none rfl _ _ _) rfl ?_;exact ⟨⟨_, rfl⟩, .inr ⟨_, HPX.out, hJx7⟩⟩
  ·have i2 : ¬ (k : Int) ≤ (j : Int) := by omega
   gi_wp2_with fail
   go_end0;refine ⟨⟨_, rfl⟩, .inl ⟨pre, ?_, hJs⟩⟩;rw [HP.out]
   congr 1
   omega
def TurnP (n B : Nat) (l : Lin) (cv : Value) (w : World) (r : Option Lin) (e : Ending) (w' : World) : Prop :=
 e = .returned (.bool r.isSome) ∧ (∃ q k a m c, w'.heap[B]? = some (.cells #[.int .i64 q, .slice a m c, .int .i64 k, cv] 47) ∧ ∀ l', r = some l' → l'.quote = q ∧ l'.kind = k ∧ l'.lists.length = m ∧ jL true w' (fun b => n ≤ b) (.slice a m c) l'.lists ∧ l'.cells = l.cells) ∧
  (∀ b, b ≠ B → b < w.heap.size → (∀ cs, w.heap[b]? ≠ some (.cells cs 3)) → w'.heap[b]? = w.heap[b]?) ∧ w.heap.size ≤ w'.heap.size ∧ ∀ m, m ≤ n → m ≤ B → Below m w w'
set_option maxRecDepth 100000 in
theorem zDs (g : Nat) (caps : Array Value) (r : Option Lin) (eg : ∀ args w, (callFunc g args).run zV w = .ok (.enter g args) w)
  (l : Lin) (la ca : Option Addr) (lc cc : Nat) (w w0 : World) (S : Nat → Prop) (hL : jL false w0 S (.slice la l.lists.length lc) l.lists) (hC : jE false w0 S (.slice ca l.cells.length cc) l.cells) (h0 : Below w0.heap.size w0 w)
  (he : EnvT w) (hs : l.lists.length ≤ 1000000 ∧ l.cells.length ≤ 1000000) (hh : ∀ c ∈ l.cells, c.href.length ≤ 1000000) (hm : mayL l = true)
  (HT : ∀ (n B : Nat) (la : Option Addr) (lc : Nat) (cv : Value) (W : World), Below w.heap.size w W → w.heap.size ≤ B → B < n → n ≤ W.heap.size → jL true W (fun b => n ≤ b) (.slice la l.lists.length lc) l.lists → W.heap[B]? = some (.cells #[.int .i64 l.quote, .slice la l.lists.length lc, .int .i64 l.kind, cv] 47) →
   Calls zV g (#[.pointer (some ⟨B, 0, none⟩)] ++ caps) W (TurnP n B l cv W r)) :
  Calls zV 169 #[linV l (.slice la l.lists.length lc) (.slice ca l.cells.length cc), .func (.func g) #[] caps] w (vO w r) := by
 obtain ⟨W1, hW1, hB, hz, hA1, hA2⟩ := uX w (.int .i64 l.quote) (.slice la l.lists.length lc) (.int .i64 l.kind) (.slice ca l.cells.length cc) (.int .i64 0) (.slice none 0 0) (.int .i64 0) (.slice none 0 0);have h01 : Below w0.heap.size w0 W1 := jH h0 hB;have HM := zA (zCd l la ca lc cc W1 w0 S hL hC (he.below hB) h01 hh);rw [hm] at HM;have HO : Hid (∀ W, Below w0.heap.size w0 W → Calls zV 212 #[linV l (.slice la l.lists.length lc) (.slice ca l.cells.length cc)] W fun e w' => ∃ a' b', e = .returned (linV l a' b') ∧ jL true w' (fun b => W.heap.size ≤ b) a' l.lists ∧ jE true w' (fun b => W.heap.size ≤ b) b' l.cells ∧ Below W.heap.size W w') := zA fun W hW => zBu l _ _ false false W w0 S hL hC hW hs;have HG := zA HT;have hs1 := hB.size;have HB0 : Hid (∀ W, Below W1.heap.size W1 W → W.heap[w.heap.size]? = some (.cells #[.int .i64 l.quote, .slice la l.lists.length lc, .int .i64 l.kind, .slice ca l.cells.length cc] 47) ∧ W.heap[w.heap.size + 1]? = some (.cells #[.int .i64 0, .slice none 0 0, .int .i64 0, .slice none 0 0] 47)) := zA fun W hW => ⟨jG hW hA1, jG hW hA2⟩;have H1 := zA hB;have H01 := zA h01;obtain ⟨p1, f1⟩ := blk hA1;obtain ⟨p2, f2⟩ := blk hA2;clear hL hC hs hB h0 HT hm he h01;unfold linV at HO ⊢;go_enter Tryz.func169, Tryz.ntmps169;go_wp2_with (first | (go_at_call 91; refine HM.out.mono ?_; rintro e w2 ⟨rfl, hb2⟩; obtain ⟨hA3, hA4⟩ := HB0.out _ hb2; obtain ⟨q0, g0⟩ := blk hA3; obtain ⟨q1, g1⟩ := blk hA4) | (go_at_call 212; refine (HO.out _ (jH H01.out hb2)).mono ?_; rintro e w3 ⟨a', b', rfl, ha', hb', hb3⟩; obtain ⟨a1, c1, rfl⟩ := ha'.slice; obtain ⟨a2, c2, rfl⟩ := hb'.slice; obtain ⟨hA5, hA6⟩ := HB0.out _ (jH hb2 hb3); obtain ⟨p3, f3⟩ := blk hA5; obtain ⟨p4, f4⟩ := blk hA6));obtain ⟨Y, hY, hYB, hYs, hYo, hYb⟩ := kA w3 w.heap.size 47 _ _ _ _ (.int .i64 l.quote) (.slice a1 l.lists.length c1) (.int .i64 l.kind) (.slice a2 l.cells.length c2) hA5;have hx2 := jH H1.out hb2;have hx3 : Below w.heap.size w w3 := jH hx2 hb3;have hn3 : w.heap.size + 2 ≤ w2.heap.size := by have := hb2.size; omega
 have hle3 := hb3.size;have hiY : jL true Y (fun b => w2.heap.size ≤ b) (.slice a1 l.lists.length c1) l.lists := qG (jX _) ha' (Keeps.only hYs hYo jD) (fun b h _ => h);have hcY : jE true Y (fun b => w2.heap.size ≤ b) (.slice a2 l.cells.length c2) l.cells := qG (jX _) hb' (Keeps.only hYs hYo jD) (fun b h _ => h);have hcl := hiY.len;rw [hY];have hA7 : Y.heap[w.heap.size + 1]? = some (.cells #[.int .i64 0, .slice none 0 0, .int .i64 0, .slice none 0 0] 47) := (hYo _ qE).trans hA6;have hYx : Below w.heap.size w Y := hYb _ (zC _) w hx3;refine (HG.out w2.heap.size w.heap.size a1 c1 (.slice a2 l.cells.length c2) Y hYx (zC _) qE qE hiY hYB).mono ?_;rintro e w4 ⟨rfl, ⟨q, k, na, m, c, h4, hl4⟩, ho4, hz4, hb4⟩;have hA8 := (ho4 (w.heap.size + 1) qE qE (fun cs e => by rw [hA7] at e; cases e)).trans hA7;have hc4 : jE true w4 (fun b => w2.heap.size ≤ b) (.slice a2 l.cells.length c2) l.cells := SliceR.tagged (jO 3 kV) jA hcY hz4 (fun b hb hz ht => ho4 b zEl hz ht) (fun b h _ => h);have hx4 : Below w.heap.size w w4 := hYx.trans (hb4 _ qE (zC _));have HCC := zA hc4;have HX4 := zA hx4;clear hc4 hx4 hiY hcY hYB hYo hYb ha' hb' ho4 hb4 HG HO HM hx2 hx3 hYx;obtain ⟨p5, f5⟩ := blk h4;obtain ⟨p6, f6⟩ := blk hA8;clear p1 f1 p2 f2 q0 g0 q1 g1 p3 f3 p4 f4 hY;cases r with
 | none =>
  go_wp2_with fail;refine zM (xZ rfl _ _ (w.heap.size + 1) (.int .i64 0) (.slice none 0 0) (.int .i64 0) (.slice none 0 0) rfl (by simp [jN, jB, hA8])) rfl ?_;refine ⟨fun l' h => xE, fun _ => rfl, ?_⟩;have := HX4.out
  ((with_reducible repeat' first | exact Below.refl _ _ | assumption | refine Below.alloc ?_ ?_ _ | refine Below.drew ?_ | refine jK ?_ | refine Below.setCell ?_ ?_ _) <;> go_size)
 | some l' =>
  obtain ⟨rfl, rfl, rfl, e5, e6⟩ := hl4 l' rfl;have HE := zA (And.intro e5 e6);have hml := e5.len;clear hl4 e5 e6;go_wp2_with fail;refine zM (xZ rfl _ _ (w.heap.size + 1) (.int .i64 l'.quote) (.slice na l'.lists.length c) (.int .i64 l'.kind) (.slice a2 l.cells.length c2) rfl (by simp [jN, jB, hA8])) rfl ?_;refine ⟨fun l'' h => ?_, fun h => xE, ?_⟩
  ·cases h
   refine ⟨_, _, rfl, ?_, ?_⟩
   ·have hh := HE.out.1
    exact (qG (jX _) hh zAh (fun b h _ => jM))
   ·rw [HE.out.2]
    have hh := HCC.out;exact (qG (jX _) hh zAh (fun b h _ => jM))
  ·have := HX4.out
   ((with_reducible repeat' first | exact Below.refl _ _ | assumption | refine Below.alloc ?_ ?_ _ | refine Below.drew ?_ | refine jK ?_ | refine Below.setCell ?_ ?_ _) <;> go_size)
theorem blkT {w : World} {B : Nat} {cs : Array Value} {t : TypeId} (h : w.heap[B]? = some (.cells cs t)) : (∀ X k, (w.alloc X).cell? ⟨B, k, none⟩ = cs[k]?) ∧ (∀ X k, (w.alloc X).frozen? ⟨B, k, none⟩ = false) :=
 ⟨fun X _ => jS (jI _ X h), fun X _ => yJ (jI _ X h)⟩
end Go.Proofs.YtjgeadoncanheaaGreatDoor
