/- The walk of law19's awake. -/
import Derived.Test.YtjpgffihafknlaaGreatDoorRenExB
import Derived.Test.YtjpgffihafknlaaGreatDoorNodPlainB
import Derived.Test.YtjpgffihafknlaaGreatDoorRenAlikeB
import Derived.Deep.RegionHeld3
import Derived.Deep.DrawnRows
import Derived.Test.YtjpgffihafknlaaGreatDoorDocPosB
import Derived.Lib.OthersKept
import Derived.Lib.RuneCount
import Derived.Test.YtjpgffihafknlaaGreatDoorRenRepB
import Derived.Test.YtjpgffihafknlaaGreatDoorCharsTextB
set_option linter.unusedVariables false
set_option linter.unusedSimpArgs false
namespace Go.Proofs.Qw
open Go.RowKit Go.Proofs.YtjpgffihafknlaaGreatDoor
theorem slice_blkR {α : Type} {t : TypeId} {k : Nat} {enc : α → List Value} (hk : ∀ x, (enc x).length = k) {w : World} {S : Nat → Prop} {b : Nat} (xs : List α) (h : w.heap[b]? = some (.cells (xs.map enc).flatten.toArray t)) (hS : S b) (hm : xs.length ≤ maxLen) :
  SliceR t k (rdOf enc) false w S (.slice (some ⟨b, 0, none⟩) xs.length xs.length) xs := by
 refine ⟨_, xs.length, rfl, Nat.le_refl _, hm, .inr ⟨b, 0, rfl, hS, (Array.getElem?_eq_some_iff.1 h).1, (fun e => by cases e), fun i x hx => ⟨enc x, hk x, rfl, fun j u hu => ?_⟩⟩⟩
 rw [cell_of_heap h, Nat.zero_add, List.getElem?_toArray]
 exact flatten_at (xs.map enc) i (enc x) j u (by simp; intro a _; exact hk a) (by rw [List.getElem?_map, hx]; rfl) hu
theorem doc_twoR {W : World} {S : Nat → Prop} {l m : Lin} {a b c e : Value} {g : Nat} (hg : W.heap[g]? = some (.cells #[.int .i64 l.quote, a, .int .i64 l.kind, b, .int .i64 m.quote, c, .int .i64 m.kind, e] 37)) (hI : IntsR false W S a l.lists) (hC : CelsR false W S b l.cells)
  (hI2 : IntsR false W S c m.lists) (hC2 : CelsR false W S e m.cells) (hS : S g) : LinsR W S (.slice (some ⟨g, 0, none⟩) 2 2) [l, m] := by
 refine ⟨_, 2, rfl, by simp, by decide, .inr ⟨g, 0, rfl, hS, (Array.getElem?_eq_some_iff.1 hg).1, (fun e => by cases e), fun i x hx => ?_⟩⟩
 match i, hx with
 | 0, hx =>
  cases hx
  refine ⟨_, rfl, ⟨a, b, rfl, hI, hC⟩, fun j u hu => ?_⟩
  rw [cell_of_heap hg]
  match j, hu with
  | 0, hu => exact hu
  | 1, hu => exact hu
  | 2, hu => exact hu
  | 3, hu => exact hu
 | 1, hx =>
  cases hx
  refine ⟨_, rfl, ⟨c, e, rfl, hI2, hC2⟩, fun j u hu => ?_⟩
  rw [cell_of_heap hg]
  match j, hu with
  | 0, hu => exact hu
  | 1, hu => exact hu
  | 2, hu => exact hu
  | 3, hu => exact hu
structure AwA (w : World) (b1 o1 b2 o2 c2 : Nat) (aa : Option Addr) (ac b3 o3 c3 : Nat) : Prop where
 z1 : b1 < w.heap.size
 z2 : b2 < w.heap.size
 z3 : b3 < w.heap.size
 k1 : w.cell? ⟨b1, o1 + 4 + 3, none⟩ = some (.slice (some ⟨b2, o2, none⟩) 2 c2)
 k2 : w.cell? ⟨b2, o2 + 4, none⟩ = some (.int .i64 11)
 k3 : w.cell? ⟨b2, o2 + 4 + 1, none⟩ = some (.slice aa 0 ac)
 k4 : w.cell? ⟨b2, o2 + 4 + 2, none⟩ = some (.string ⟨#[]⟩)
 k5 : w.cell? ⟨b2, o2 + 4 + 3, none⟩ = some (.slice (some ⟨b3, o3, none⟩) 3 c3)
 k6 : w.cell? ⟨b3, o3 + 8, none⟩ = some (.int .i64 16)
theorem AwA.below {w w' : World} {b1 o1 b2 o2 c2 ac b3 o3 c3 : Nat} {aa : Option Addr} (h : AwA w b1 o1 b2 o2 c2 aa ac b3 o3 c3) (hb : Below w.heap.size w w') : AwA w' b1 o1 b2 o2 c2 aa ac b3 o3 c3 :=
 ⟨Nat.lt_of_lt_of_le h.z1 hb.size, Nat.lt_of_lt_of_le h.z2 hb.size, Nat.lt_of_lt_of_le h.z3 hb.size, (hb.cell h.z1).trans h.k1, (hb.cell h.z2).trans h.k2, (hb.cell h.z2).trans h.k3, (hb.cell h.z2).trans h.k4, (hb.cell h.z2).trans h.k5, (hb.cell h.z3).trans h.k6⟩
theorem awA_of {w : World} {S : Nat → Prop} {v : Value} (h : NodsR false 40 w S v (hostN exD).kids) : ∃ b1 o1 c1 b2 o2 c2 aa ac b3 o3 c3, v = .slice (some ⟨b1, o1, none⟩) 2 c1 ∧ AwA w b1 o1 b2 o2 c2 aa ac b3 o3 c3 := by
 rw [exD_host] at h
 obtain ⟨a, c, rfl, hc, hm, hx⟩ := nods_shape h
 obtain ⟨b1, o1, aa1, ac1, ka1, kc1, h1, _, rfl, hn1⟩ := hx 1 _ rfl
 obtain ⟨a2, c2, e2, hc2, hm2, hx2⟩ := nods_shape hn1.kidsR
 obtain ⟨b2, o2, aa2, ac2, ka2, kc2, h2, _, rfl, hn2⟩ := hx2 1 _ rfl
 obtain ⟨a3, c3, e3, hc3, hm3, hx3⟩ := nods_shape hn2.kidsR
 obtain ⟨b3, o3, aa3, ac3, ka3, kc3, h3, _, rfl, hn3⟩ := hx3 2 _ rfl
 have k1 := hn1.kids
 have k5 := hn2.kids
 rw [e2] at k1
 rw [e3] at k5
 exact ⟨b1, o1, c, b2, o2, c2, aa2, ac2, b3, o3, c3, rfl, hn1.lt, hn2.lt, hn3.lt, k1, hn2.tag, hn2.attrs, hn2.text, k5, hn3.tag⟩
structure AwB (w : World) (b1 o1 : Nat) (ka : Option Addr) (kc : Nat) : Prop where
 z1 : b1 < w.heap.size
 k1 : w.cell? ⟨b1, o1 + 3, none⟩ = some (.slice ka 2 kc)
theorem AwB.below {w w' : World} {b1 o1 kc : Nat} {ka : Option Addr} (h : AwB w b1 o1 ka kc) (hb : Below w.heap.size w w') : AwB w' b1 o1 ka kc := ⟨Nat.lt_of_lt_of_le h.z1 hb.size, (hb.cell h.z1).trans h.k1⟩
theorem awB_of {w : World} {S : Nat → Prop} {v : Value} (h : NodsR false 40 w S v (hostN exL).kids) : ∃ b1 o1 c1 ka kc, v = .slice (some ⟨b1, o1, none⟩) 1 c1 ∧ AwB w b1 o1 ka kc := by
 rw [exL_host] at h
 obtain ⟨a, c, rfl, hc, hm, hx⟩ := nods_shape h
 obtain ⟨b1, o1, aa1, ac1, ka1, kc1, h1, _, rfl, hn1⟩ := hx 0 _ rfl
 exact ⟨b1, o1, c, ka1, kc1, rfl, hn1.lt, by have := hn1.kids; rw [Nat.zero_mul, Nat.add_zero] at this; exact this⟩
end Go.Proofs.Qw
namespace Go.Proofs.YtjpgffihafknlaaGreatDoor
open Go.RowKit
open Go.Proofs.Qw
attribute [local go_sem] Oper.semAt_some
set_option maxRecDepth 100000 in
set_option maxHeartbeats 4000000 in
theorem awake19_any (w : World) (he : EnvT w) : Calls Tryz.prog 33 #[] w fun e w' => e = .returned (.bool true) ∧ Below w.heap.size w w' := by
 obtain ⟨W1, hW1⟩ : ∃ W1, (w.alloc (.cells #[.int .i32 97, .int .i64 0, .string ⟨#[]⟩, .int .i32 98, .int .i64 1, .string ⟨#[]⟩, .int .i32 99, .int .i64 3, .string ⟨#[]⟩, .int .i32 10, .int .i64 1, .string ⟨#[]⟩] 66)).alloc (.cells #[.int .i64 0, .slice none 0 0, .int .i64 0, .slice none 0 0, .int .i64 0, .slice none 0 0, .int .i64 0, .slice (some ⟨w.heap.size, 0, none⟩) 4 4] 37) = W1 := ⟨_, rfl⟩
 have hB : Below w.heap.size w W1 := hW1 ▸ ((Below.refl _ _).alloc (Nat.le_refl _) _).alloc (by simp) _
 have k0 : W1.heap[w.heap.size]? = some (.cells #[.int .i32 97, .int .i64 0, .string ⟨#[]⟩, .int .i32 98, .int .i64 1, .string ⟨#[]⟩, .int .i32 99, .int .i64 3, .string ⟨#[]⟩, .int .i32 10, .int .i64 1, .string ⟨#[]⟩] 66) := hW1 ▸ heap_old _ _ (heap_new _ _ rfl)
 have k1 : W1.heap[w.heap.size + 1]? = some (.cells #[.int .i64 0, .slice none 0 0, .int .i64 0, .slice none 0 0, .int .i64 0, .slice none 0 0, .int .i64 0, .slice (some ⟨w.heap.size, 0, none⟩) 4 4] 37) := hW1 ▸ heap_new _ _ (by simp)
 have hd : LinsR W1 (fun _ => True) (.slice (some ⟨w.heap.size + 1, 0, none⟩) 2 2) exD :=
  doc_twoR (l := ⟨0, [], 0, []⟩) (m := ⟨0, [], 0, [⟨97, 0, []⟩, ⟨98, 1, []⟩, ⟨99, 3, []⟩, ⟨10, 1, []⟩]⟩) k1 (SliceR.nil _ _ _ _ _ _) (SliceR.nil _ _ _ _ _ _) (SliceR.nil _ _ _ _ _ _) (slice_blkR (enc := encCel) (fun _ => rfl) [⟨97, 0, []⟩, ⟨98, 1, []⟩, ⟨99, 3, []⟩, ⟨10, 1, []⟩] k0 trivial (by decide)) trivial
 have HH : Hid (∀ W, Below W1.heap.size W1 W → Calls Tryz.prog 34 #[.slice (some ⟨w.heap.size + 1, 0, none⟩) 2 2] W fun e W' => ∃ b1 o1 c1 b2 o2 c2 aa ac b3 o3 c3, e = .returned (.tuple #[.agg #[.int .i64 1, .slice none 0 0, .string ⟨#[]⟩, .slice (some ⟨b1, o1, none⟩) 2 c1], .int .i64 0]) ∧ AwA W' b1 o1 b2 o2 c2 aa ac b3 o3 c3 ∧ Below W.heap.size W W') := Lib.hid fun W hW => (host_yes _ exD W W1 _ hd ((he.below hB).below hW) hW exD_may.1).mono fun _ _ ⟨k', h1, h2, h3⟩ => by
  obtain ⟨b1, o1, c1, b2, o2, c2, aa, ac, b3, o3, c3, rfl, ha⟩ := awA_of (h2.read fun _ _ g => rdNod_read g)
  rw [exD_host] at h1
  exact ⟨b1, o1, c1, b2, o2, c2, aa, ac, b3, o3, c3, h1, ha, h3⟩
 have HP : Hid (∀ W, Below W1.heap.size W1 W → Calls Tryz.prog 35 #[.slice (some ⟨w.heap.size + 1, 0, none⟩) 2 2, .agg #[.int .i64 1, .int .i64 4]] W fun e W' => ∃ b o c, e = .returned (.tuple #[.agg #[.slice (some ⟨b, o, none⟩) 2 c, .int .i64 3], .int .i64 0]) ∧ b < W'.heap.size ∧ W'.cell? ⟨b, o + 1, none⟩ = some (.int .i64 1) ∧ Below W.heap.size W W') := Lib.hid fun W hW => (point_yes _ exD ⟨1, 4⟩ W W1 _ hd ((he.below hB).below hW) hW exD_may.1 (by decide)).mono fun _ _ ⟨qa, qc, h1, h2, h3⟩ => by
  rw [exD_point] at h1 h2
  obtain ⟨a, c, e, _, _, hx⟩ := ints_shape h2
  cases e
  obtain ⟨b, o, rfl, hz, hc⟩ := hx 1 1 rfl
  exact ⟨b, o, _, h1, hz, hc, h3⟩
 have HH2 : Hid (∀ W, Below W1.heap.size W1 W → Calls Tryz.prog 34 #[.slice (some ⟨W.heap.size + 1 + 1, 0, none⟩) 2 2] (((W.alloc (.cells #[.int .i64 0] 3)).alloc (.cells #[.int .i64 0, .int .i64 1] 3)).alloc (.cells #[.int .i64 0, .slice (some ⟨W.heap.size, 0, none⟩) 1 1, .int .i64 0, .slice none 0 0, .int .i64 0, .slice (some ⟨W.heap.size + 1, 0, none⟩) 2 2, .int .i64 0, .slice none 0 0] 37)) fun e W' => ∃ b1 o1 c1 ka kc, e = .returned (.tuple #[.agg #[.int .i64 1, .slice none 0 0, .string ⟨#[]⟩, .slice (some ⟨b1, o1, none⟩) 1 c1], .int .i64 0]) ∧ AwB W' b1 o1 ka kc ∧ Below W.heap.size W W') := Lib.hid fun W hW => by
  obtain ⟨W3, hW3⟩ : ∃ W3, ((W.alloc (.cells #[.int .i64 0] 3)).alloc (.cells #[.int .i64 0, .int .i64 1] 3)).alloc (.cells #[.int .i64 0, .slice (some ⟨W.heap.size, 0, none⟩) 1 1, .int .i64 0, .slice none 0 0, .int .i64 0, .slice (some ⟨W.heap.size + 1, 0, none⟩) 2 2, .int .i64 0, .slice none 0 0] 37) = W3 := ⟨_, rfl⟩
  have hB3 : Below W.heap.size W W3 := hW3 ▸ (((Below.refl _ _).alloc (Nat.le_refl _) _).alloc (by simp) _).alloc (by simp; omega) _
  have g0 : W3.heap[W.heap.size]? = some (.cells #[.int .i64 0] 3) := hW3 ▸ heap_old _ _ (heap_old _ _ (heap_new _ _ rfl))
  have g1 : W3.heap[W.heap.size + 1]? = some (.cells #[.int .i64 0, .int .i64 1] 3) := hW3 ▸ heap_old _ _ (heap_new _ _ (by simp))
  have g2 : W3.heap[W.heap.size + 1 + 1]? = some (.cells #[.int .i64 0, .slice (some ⟨W.heap.size, 0, none⟩) 1 1, .int .i64 0, .slice none 0 0, .int .i64 0, .slice (some ⟨W.heap.size + 1, 0, none⟩) 2 2, .int .i64 0, .slice none 0 0] 37) := hW3 ▸ heap_new _ _ (by simp)
  rw [hW3]
  have hl : LinsR W3 (fun _ => True) (.slice (some ⟨W.heap.size + 1 + 1, 0, none⟩) 2 2) exL :=
   doc_twoR (l := ⟨0, [0], 0, []⟩) (m := ⟨0, [0, 1], 0, []⟩) g2 (slice_blkR (enc := encInt) (fun _ => rfl) [0] g0 trivial (by decide)) (SliceR.nil _ _ _ _ _ _) (slice_blkR (enc := encInt) (fun _ => rfl) [0, 1] g1 trivial (by decide)) (SliceR.nil _ _ _ _ _ _) trivial
  refine (host_yes _ exL W3 W3 _ hl (((he.below hB).below hW).below hB3) (Below.refl _ _) exD_may.2).mono fun _ _ ⟨k', h1, h2, h3⟩ => ?_
  obtain ⟨b1, o1, c1, ka, kc, rfl, ha⟩ := awB_of (h2.read fun _ _ g => rdNod_read g)
  rw [exL_host] at h1
  exact ⟨b1, o1, c1, ka, kc, h1, ha, below_from hB3 h3⟩
 have HW1 := Lib.hid hW1
 have HB := Lib.hid hB
 clear hd he k0 k1 hB hW1
 go_enter Tryz.func33, Tryz.ntmps33
 go_upto_region 7 with (first
  | (go_at_call 34; rw [HW1.out]; refine (HH.out _ (Below.refl _ _)).mono ?_; rintro e w2 ⟨b1, o1, c1, b2, o2, c2, aa, ac, b3, o3, c3, rfl, ha2, hb2⟩)
  | (go_at_call 35; refine (HP.out _ (hb2.alloc hb2.size _)).mono ?_; rintro e w3 ⟨pb, po, pc, rfl, hpz, hpc, hb3⟩; have hx3 := below_from (hb2.alloc hb2.size _) hb3; have hx23 := below_from ((Below.refl w2.heap.size w2).alloc (Nat.le_refl _) _) hb3; have hN3 := heap_below hb3 (heap_new _ _ rfl); obtain ⟨q1, g1⟩ := blk hN3; have hA3 := ha2.below hx23; obtain ⟨z1, z2, z3, m1, m2, m3, m4, m5, m6⟩ := hA3; have zn : w2.heap.size < w3.heap.size := alloc_le hb3.size))
 obtain ⟨W6, hW6⟩ : ∃ W6, (w3.alloc (.cells #[.slice (some ⟨pb, po, none⟩) 2 pc, .int .i64 3] 44)).alloc (.cells #[.int .i64 11, .slice aa 0 ac, .string ⟨#[]⟩, .slice (some ⟨b3, o3, none⟩) 3 c3] 25) = W6 := ⟨_, rfl⟩
 rw [hW6]
 have hb36 : Below w3.heap.size w3 W6 := hW6 ▸ ((Below.refl _ _).alloc (Nat.le_refl _) _).alloc (by simp) _
 have hP6 : Hid (W6.heap[w3.heap.size]? = some (.cells #[.slice (some ⟨pb, po, none⟩) 2 pc, .int .i64 3] 44)) := Lib.hid (hW6 ▸ heap_old _ _ (heap_new _ _ rfl))
 have hB6 : Hid (W6.heap[w3.heap.size + 1]? = some (.cells #[.int .i64 11, .slice aa 0 ac, .string ⟨#[]⟩, .slice (some ⟨b3, o3, none⟩) 3 c3] 25)) := Lib.hid (hW6 ▸ heap_new _ _ (by simp))
 have HA6 := Lib.hid (ha2.below (below_from hx23 hb36))
 have hx6 := Lib.hid (below_from hx3 hb36)
 have HPC := Lib.hid (And.intro (Nat.lt_of_lt_of_le hpz hb36.size) ((hb36.cell (p := ⟨pb, po + 1, none⟩) hpz).trans hpc))
 clear hW6 hb36 hx3 hx23 hpz hpc ha2 hb2 hb3 q1 g1 z1 z2 z3 m1 m2 m3 m4 m5 m6 zn hN3
 go_wp2_with (first
  | (go_at_call 34; refine (HH2.out _ hx6.out).mono ?_; rintro e w7 ⟨d1, p1, c4, ka, kc, rfl, hb7, hx67⟩; obtain ⟨q1, g1⟩ := blk (heap_below hx67 hP6.out); obtain ⟨q2, g2⟩ := blk (heap_below hx67 hB6.out); obtain ⟨z1, z2, z3, m1, m2, m3, m4, m5, m6⟩ := HA6.out.below hx67; have y1 := (Array.getElem?_eq_some_iff.1 (heap_below hx67 hP6.out)).1; have y2 := (Array.getElem?_eq_some_iff.1 (heap_below hx67 hB6.out)).1; obtain ⟨z7, m7⟩ := hb7; have z8 := Nat.lt_of_lt_of_le HPC.out.1 hx67.size; have m8 := (hx67.cell (p := ⟨pb, po + 1, none⟩) HPC.out.1).trans HPC.out.2; have hx7 := Lib.hid (below_from hx6.out hx67); clear hx67)
  )
 go_ret
 exact ⟨rfl, HB.out.trans ((hx7.out.alloc hx7.out.size _).mono HB.out.size)⟩
end Go.Proofs.YtjpgffihafknlaaGreatDoor
namespace Go.Proofs.YtjpgffihafknlaaGreatDoor
open Go.RowKit
open Go.Proofs.Qw
set_option maxRecDepth 100000 in
set_option maxHeartbeats 4000000 in
theorem long19_any (v : Value) (d : Doc) (w : World) (S : Nat → Prop) (h : LinsR w S v d) (hs : Sane d) :
  Calls Tryz.prog 31 #[v] w (LongSaid d w) := by
 obtain ⟨a, c, rfl, hc, hm, hx⟩ := lins_shape h
 have HX := Lib.hid hx
 have HS := Lib.hid hs
 unfold maxLen at hm
 clear hx h hs
 go_enter Tryz.func31, Tryz.ntmps31
 by_cases hl : 300 < d.length
 ·go_wp2_with fail
  go_ret
  exact ⟨true, rfl, (fun h => by cases h), Below.refl _ _⟩
 ·go_wp2_with fail
  go_loopw [3, 4, 5] (fun n i _ wr => ∃ (k m : Nat), k ≤ d.length ∧ i = .int .i64 k ∧ n = .int .i64 m ∧ m ≤ 5000 ∧ Hid (sizeD (d.take k) ≤ m ∧ ∀ l ∈ d.take k, l.lists.length ≤ 20000 ∧ ∀ c ∈ l.cells, c.href.length ≤ 160007) ∧ Below w.heap.size w wr) (fun _ i _ _ => d.length - (intOf i).toNat)
  case atStart => exact ⟨0, 0, Nat.zero_le _, rfl, rfl, Nat.zero_le _, Lib.hid ⟨Nat.le_refl _, fun l h => by cases h⟩, Below.refl _ _⟩
  case round =>
   obtain ⟨k, m, hk, rfl, rfl, hm2, HA, hb⟩ := hrel
   obtain ⟨wo, rfl⟩ : ∃ wo : World, wo = wr := ⟨_, rfl⟩
   by_cases hlt : k < d.length
   ·obtain ⟨l, hl', hd⟩ := getOf d k hlt
    obtain ⟨b, o, la, lc, ca, cc, rfl, hA⟩ := HX.out k l hl'
    have hsn := HS.out l (List.mem_of_getElem? hl')
    have hs1 := hsn.1
    have hs2 := hsn.2.1
    have HS3 := Lib.hid hsn.2.2
    have HA2 := Lib.hid hA
    obtain ⟨_, c0, c1, c2, c3, _, hcr⟩ := hA.below hb
    obtain ⟨ca', cc', hce, hcl, hcm, hcx⟩ := cels_shape hA.cellsR
    cases hce
    have HCX := Lib.hid hcx
    have HT := Lib.hid hl'
    have i0 : (0 : Int) ≤ (k : Int) := Int.natCast_nonneg _
    have i1 : (k : Int) < (d.length : Int) := by omega
    have hw : IntKind.i64.wrap ((l.cells.length : Int) + (l.lists.length : Int)) = (l.cells.length : Int) + (l.lists.length : Int) := IntWalk.i64_in _ (by omega)
    have hw2 : IntKind.i64.wrap ((m : Int) + ((l.cells.length : Int) + (l.lists.length : Int))) = (m : Int) + ((l.cells.length : Int) + (l.lists.length : Int)) := IntWalk.i64_in _ (by omega)
    unfold maxLen at hcm
    clear hA hl' hd hsn hcx hcr
    go_wp2_with fail
    go_quiet (fail)
    clear hw hw2
    go_wp2_with fail
    go_loopw [3, 5] (fun n j wi => ∃ (q m' : Nat), q ≤ l.cells.length ∧ j = .int .i64 q ∧ n = .int .i64 m' ∧ m' ≤ 562949953421312 ∧ Hid (m + (l.cells.length + l.lists.length) ≤ m' ∧ (m' ≤ 5000 → ∀ c ∈ l.cells.take q, c.href.length ≤ 160007)) ∧ Below w.heap.size w wi) (fun _ j _ => l.cells.length - (intOf j).toNat)
    case atStart => exact ⟨0, m + (l.cells.length + l.lists.length), Nat.zero_le _, rfl, by go_num, by omega, Lib.hid ⟨Nat.le_refl _, fun _ c h => by cases h⟩, drewN_below hb⟩
    case round =>
     obtain ⟨q, m', hq, rfl, rfl, hm3, HQ, hb2⟩ := hrel
     obtain ⟨hzb, c0, c1, c2, c3, _, _⟩ := HA2.out.below hb2
     have hcs : (q < l.cells.length ∧ m' ≤ 5000) ∨ 5000 < m' ∨ (q = l.cells.length ∧ m' ≤ 5000) := by omega
     rcases hcs with ⟨h1, h2⟩ | h2 | ⟨h1, h2⟩
     ·obtain ⟨x, hx, _⟩ := getOf l.cells q h1
      obtain ⟨bc, oc, rfl, hz, k0, k1, k2⟩ := HCX.out q x hx
      have k2 := (hb2.cell (p := ⟨bc, oc + q * 3 + 2, none⟩) hz).trans k2
      have hxl := HS3.out x (List.mem_of_getElem? hx)
      have HN : Hid (m + (l.cells.length + l.lists.length) ≤ m' + x.href.length / 16 ∧ (m' + x.href.length / 16 ≤ 5000 → ∀ c ∈ l.cells.take (q + 1), c.href.length ≤ 160007)) := Lib.hid ⟨by have := HQ.out.1; omega, fun h c hc => by
       rw [take_some hx, List.mem_append] at hc
       rcases hc with hc | hc
       ·exact HQ.out.2 (by omega) c hc
       ·rw [List.mem_singleton] at hc; subst hc; omega⟩
      clear hx
      go_wp2_with fail
      go_roundw
      case rel => exact ⟨q + 1, m' + x.href.length / 16, h1, by go_num, by go_num, by omega, HN, hb2⟩
      case measure => simp [intOf]; omega
     ·by_cases h1 : q < l.cells.length
      all_goals
       go_wp2_with fail
       go_ret
       exact ⟨true, rfl, (fun h => by cases h), hb2⟩
     ·subst h1
      have HN : Hid (sizeD (d.take (k + 1)) ≤ m' ∧ ∀ l ∈ d.take (k + 1), l.lists.length ≤ 20000 ∧ ∀ c ∈ l.cells, c.href.length ≤ 160007) := Lib.hid (by
       have h3 := HQ.out.1
       have h4 := sizeD_step HT.out
       have h5 := HA.out.1
       refine ⟨by omega, fun x hx => ?_⟩
       rw [take_some HT.out, List.mem_append] at hx
       rcases hx with hx | hx
       ·exact HA.out.2 x hx
       ·rw [List.mem_singleton] at hx
        subst hx
        exact ⟨by omega, fun c hc => HQ.out.2 h2 c (by rw [List.take_length]; exact hc)⟩)
      go_wp2_with fail
      go_roundw
      case rel => exact ⟨k + 1, m', hlt, by go_num, rfl, h2, HN, hb2⟩
      case measure => simp [intOf]; omega
   ·obtain rfl : k = d.length := by omega
    have HF : Hid (Sml d) := Lib.hid (by
     have h1 := HA.out
     rw [List.take_length] at h1
     exact ⟨by omega, by omega, h1.2⟩)
    have HB := Lib.hid hb
    clear hb
    go_wp2_with fail
    go_ret
    exact ⟨false, rfl, fun _ => HF.out, HB.out⟩
end Go.Proofs.YtjpgffihafknlaaGreatDoor
namespace Go.Proofs.Qw
open Go.RowKit
structure Ev where
 act : Int
 frame : Lin
 cell : Cel
def ev (k : Int) (f : Lin) : Ev := ⟨k, f, ⟨0, 0, []⟩⟩
def lin0 : Lin := ⟨0, [], 0, []⟩
def boxR (t : Int) (a : Aro) : Aro :=
 let b : Aro := if t = 6 ∧ a.quote < 6 then { a with quote := a.quote + 1 } else a
 if (t = 7 ∨ t = 8) ∧ b.lists.length < 6 then { b with lists := b.lists ++ [t - 7] } else b
def innerA (n : Nod) (a : Aro) : Aro := if tagC n.tag = 4 then { a with bits := bitsN n a.bits, href := linkN n a.href } else if tagC n.tag = 3 then { a with kind := headT n.tag } else if tagC n.tag = 2 then boxR n.tag a else a
structure TSt where
 d : List Lin
 begun : List Nat
 pos : Ps
 opn : Bool
 waits : Bool
 known : Bool
def addE (c : Cel) (d : List Lin) : List Lin := lastD (fun l => { l with cells := l.cells ++ [c] }) d
def beginE (f : Lin) (t : TSt) : TSt := { t with d := t.d ++ [f], opn := true, pos := if (t.waits && !t.known) = true then ⟨t.d.length, 0⟩ else t.pos, known := t.known || t.waits }
def stepE (t : TSt) (x : Ev) : TSt :=
 if x.act = 0 then let u := if t.opn = true then t else beginE x.frame t; { u with d := addE x.cell u.d }
 else if x.act = 1 then { t with opn := false }
 else if x.act = 2 then { t with begun := t.begun ++ [t.d.length] }
 else if x.act = 3 then let u := { t with begun := t.begun.dropLast }; if t.begun.getLast? = some t.d.length then beginE x.frame u else u
 else if t.opn = true then { t with pos := ⟨(t.d.length : Int) - 1, ((t.d.getLastD default).cells.length : Int)⟩, known := true } else { t with waits := true }
def runE (l : List Ev) (t : TSt) : TSt := l.foldl stepE t
theorem run_app (l m : List Ev) (t : TSt) : runE (l ++ m) t = runE m (runE l t) := by unfold runE; rw [List.foldl_append]
theorem run_nil (t : TSt) : runE [] t = t := rfl
theorem run_cons (x : Ev) (l : List Ev) (t : TSt) : runE (x :: l) t = runE l (stepE t x) := rfl
def sizeL (d : List Lin) : Nat := (d.map (·.cells.length)).sum
structure TR (t : TSt) (s : VSt) : Prop where
 d : t.d = s.lines
 opn : t.opn = s.opn
 some : s.opn = true → s.lines ≠ []
 cells : s.cells = sizeL s.lines
 spot : (s.spot = 0 ∧ t.waits = false ∧ t.known = false) ∨ (s.spot = 1 ∧ t.waits = true ∧ t.known = false) ∨ (s.spot = 2 ∧ t.known = true ∧ t.pos = s.pos)
theorem tr_close {t : TSt} {s : VSt} (h : TR t s) : TR (stepE t (ev 1 lin0)) { s with opn := false } := ⟨h.d, rfl, (fun e => by cases e), h.cells, h.spot⟩
theorem tr_begin {t : TSt} {s : VSt} (h : TR t s) (a : Aro) : TR (beginE (frameA a) t) (beginV a s) ∧ ((beginV a s).spot = 0 ↔ s.spot = 0) := by
 refine ⟨⟨by simp [beginE, beginV, h.d], rfl, fun _ => by simp [beginV], ?_, ?_⟩, ?_⟩
 ·unfold beginV
  simp only [h.cells, sizeL, List.map_append, List.sum_append]
  simp [frameA]
 ·unfold beginE beginV
  rcases h.spot with ⟨h1, h2, h3⟩ | ⟨h1, h2, h3⟩ | ⟨h1, h2, h3⟩
  ·left; simp [h1, h2, h3]
  ·right; right; simp [h1, h2, h3, h.d]
  ·right; right; simp [h1, h2, h3]
 ·unfold beginV
  simp only
  split <;> omega
theorem lastD_size (c : Cel) {d : List Lin} (h : d ≠ []) : sizeL (addE c d) = sizeL d + 1 ∧ addE c d ≠ [] := by
 obtain ⟨m, l, rfl⟩ : ∃ m l, d = m ++ [l] := ⟨d.dropLast, d.getLast h, (List.dropLast_concat_getLast h).symm⟩
 unfold addE lastD sizeL
 simp
 omega
def Goes (l : List Ev) (f : VSt → VSt) : Prop := ∀ t s, TR t s → TR (runE l t) (f s) ∧ (runE l t).begun = t.begun ∧ ((f s).spot = 0 ↔ s.spot = 0)
def Meets (l : List Ev) (f : VSt → VSt) : Prop := ∀ t s, TR t s → s.spot = 0 → TR (runE l t) (f s) ∧ (runE l t).begun = t.begun ∧ (f s).spot ≠ 0
theorem Goes.then {l m : List Ev} {f g : VSt → VSt} (h : Goes l f) (k : Goes m g) : Goes (l ++ m) (fun s => g (f s)) := fun t s ht => by
 rw [run_app]
 obtain ⟨h1, h2, h3⟩ := h t s ht
 obtain ⟨k1, k2, k3⟩ := k _ _ h1
 exact ⟨k1, k2.trans h2, k3.trans h3⟩
def reachN : Nod → List Int → Nat × Nod
 | n, [] => (0, n)
 | n, i :: p => if asideT n.tag = true ∨ i < 0 ∨ (n.kids.length : Int) ≤ i then (0, n) else ((reachN (n.kids.getD i.toNat default) p).1 + 1, (reachN (n.kids.getD i.toNat default) p).2)
def AroOk (a : Aro) : Prop := 0 ≤ a.quote ∧ a.quote ≤ 6 ∧ 0 ≤ a.bits ∧ a.bits ≤ 15
theorem inner_mk (t : Int) (ats : List Att) (x : List UInt8) (ks : List Nod) (a : Aro) : innerA (.mk t ats x ks) a = if tagC t = 4 then { a with bits := bitsN (.mk t ats x ks) a.bits, href := linkN (.mk t ats x ks) a.href } else if tagC t = 3 then { a with kind := headT t } else if tagC t = 2 then boxR t a else a := rfl
theorem says_mk (t : Int) (ats : List Att) (x : List UInt8) (ks : List Nod) : saysN (.mk t ats x ks) = if t = 11 then (1, 0) else if t = 12 then (2, 0) else if t = 13 then (4, 0) else if t = 14 then (8, 0) else if t = 15 then cssParse ((attrF ats styleN).getD []) else (0, 0) := rfl
theorem link_mk (t : Int) (ats : List Att) (x : List UInt8) (ks : List Nod) (l : List UInt8) : linkN (.mk t ats x ks) l = match attrF ats hrefN with | some h => if t = 10 ∧ targetF h = true then h else l | none => l := rfl
theorem bitsN_rng (n : Nod) {g : Int} (h0 : 0 ≤ g) (h1 : g ≤ 15) : 0 ≤ bitsN n g ∧ bitsN n g ≤ 15 := by
 obtain ⟨p, hf, e⟩ := says_fine n
 have hp : ∃ a b : Fin 16, saysN n = ((a.val : Int), (b.val : Int)) := by
  have key : ∀ v : BitVec 64, v &&& ~~~15#64 = 0#64 → ∃ a : Fin 16, en v = (a.val : Int) := by
   intro v hv
   have hle : v.toNat < 16 := by
    have : v = v &&& 15#64 := by
     apply BitVec.eq_of_getElem_eq
     intro i hi
     have := congrArg (fun x : BitVec 64 => x[i]) hv
     simp only [BitVec.getElem_and, BitVec.getElem_not, BitVec.getElem_zero] at this ⊢
     cases hx : v[i] <;> cases hy : (15#64)[i] <;> simp_all
    rw [this, BitVec.toNat_and]
    exact Nat.lt_of_le_of_lt Nat.and_le_right (by decide)
   refine ⟨⟨v.toNat, hle⟩, ?_⟩
   unfold en
   simp [IntKind.wrap, IntKind.signed, IntKind.bits]
   omega
  have h2 := hf.2
  have ha : p.1 &&& ~~~15#64 = 0#64 := by
   apply BitVec.eq_of_getElem_eq
   intro i hi
   have := congrArg (fun x : BitVec 64 => x[i]) h2
   simp only [BitVec.getElem_and, BitVec.getElem_or, BitVec.getElem_not, BitVec.getElem_zero] at this ⊢
   cases hx : p.1[i] <;> cases hy : (15#64)[i] <;> simp_all
  have hb : p.2 &&& ~~~15#64 = 0#64 := by
   apply BitVec.eq_of_getElem_eq
   intro i hi
   have := congrArg (fun x : BitVec 64 => x[i]) h2
   simp only [BitVec.getElem_and, BitVec.getElem_or, BitVec.getElem_not, BitVec.getElem_zero] at this ⊢
   cases hx : p.2[i] <;> cases hy : (15#64)[i] <;> simp_all
  obtain ⟨a, ha⟩ := key _ ha
  obtain ⟨b, hb⟩ := key _ hb
  exact ⟨a, b, by rw [e, enS, ha, hb]⟩
 obtain ⟨a, b, e2⟩ := hp
 unfold bitsN
 rw [e2]
 have : ∀ x y z : Fin 16, 0 ≤ bits .or .i64 (bits .andNot .i64 (x.val : Int) (y.val : Int)) (z.val : Int) ∧ bits .or .i64 (bits .andNot .i64 (x.val : Int) (y.val : Int)) (z.val : Int) ≤ 15 := by decide +kernel
 have h := this ⟨g.toNat, by omega⟩ b a
 simp only [Int.toNat_of_nonneg h0] at h
 exact h
theorem bits_same {g : Int} (h0 : 0 ≤ g) (h1 : g ≤ 15) : bits .or .i64 (bits .andNot .i64 g 0) 0 = g := by
 have : ∀ x : Fin 16, bits .or .i64 (bits .andNot .i64 (x.val : Int) 0) 0 = (x.val : Int) := by decide +kernel
 have h := this ⟨g.toNat, by omega⟩
 simp only [Int.toNat_of_nonneg h0] at h
 exact h
theorem inner_ok (n : Nod) {a : Aro} (h : AroOk a) : AroOk (innerA n a) := by
 obtain ⟨h1, h2, h3, h4⟩ := h
 unfold innerA
 split
 ·exact ⟨h1, h2, (bitsN_rng n h3 h4).1, (bitsN_rng n h3 h4).2⟩
 ·split
  ·exact ⟨h1, h2, h3, h4⟩
  ·split
   ·unfold boxR
    simp only
    split <;> split <;> exact ⟨by first | omega | (simp only; omega), by first | omega | (simp only; omega), h3, h4⟩
   ·exact ⟨h1, h2, h3, h4⟩
theorem class_in {t : Int} (h4 : ¬ tagC t = 4) : t ≠ 10 ∧ t ≠ 11 ∧ t ≠ 12 ∧ t ≠ 13 ∧ t ≠ 14 ∧ t ≠ 15 := by
 refine ⟨?_, ?_, ?_, ?_, ?_, ?_⟩ <;> rintro rfl <;> exact h4 (by decide)
theorem inner_none {t : Int} {ats : List Att} {x : List UInt8} {ks : List Nod} {a : Aro} (ha : AroOk a) (h2 : ¬ tagC t = 2) (h3 : ¬ tagC t = 3) :
  ({ a with bits := bitsN (.mk t ats x ks) a.bits, href := linkN (.mk t ats x ks) a.href } : Aro) = innerA (.mk t ats x ks) a := by
 rw [inner_mk]
 by_cases h4 : tagC t = 4
 ·rw [if_pos h4]
 ·rw [if_neg h4, if_neg h3, if_neg h2]
  obtain ⟨c0, c1, c2, c3, c4, c5⟩ := class_in h4
  have e1 : bitsN (.mk t ats x ks) a.bits = a.bits := by
   unfold bitsN
   rw [says_mk, if_neg c1, if_neg c2, if_neg c3, if_neg c4, if_neg c5]
   exact bits_same ha.2.2.1 ha.2.2.2
  have e2 : linkN (.mk t ats x ks) a.href = a.href := by
   rw [link_mk]
   simp only [c0, false_and, if_false]
   split <;> rfl
  rw [e1, e2]
theorem inner_box {t : Int} {ats : List Att} {x : List UInt8} {ks : List Nod} {a : Aro} (ha : AroOk a) (h : tagC t = 2) : boxA t a = innerA (.mk t ats x ks) a := by
 have ht : t = 1 ∨ t = 6 ∨ t = 7 ∨ t = 8 := by
  unfold tagC at h
  split at h
  ·cases h
  ·split at h
   ·cases h
   ·split at h
    ·rename_i h1; exact h1
    ·split at h
     ·cases h
     ·split at h <;> cases h
 rw [inner_mk, if_neg (by omega), if_neg (by omega), if_pos h]
 unfold boxA boxR
 have := ha.2.1
 rcases ht with rfl | rfl | rfl | rfl
 ·simp
 ·simp only [if_true, true_and]
  by_cases hq : a.quote < 6
  ·rw [if_pos hq]
   simp
   omega
  ·rw [if_neg hq]
   simp
   have : a.quote = 6 := by omega
   rw [this]
   simp
   cases a
   simp_all
   try rfl
 ·simp
 ·simp
def lineV (a1 : Aro) (f : VSt → VSt) (s : VSt) : VSt :=
 let s2 := f { s with opn := false }
 { (if s2.lines.length = s.lines.length then beginV a1 s2 else s2) with opn := false }
theorem run_line {a1 : Aro} {L : List Ev} {f : VSt → VSt} {t : TSt} {s : VSt} (ht : TR t s)
  (hk : TR (runE L (stepE (stepE t (ev 1 lin0)) (ev 2 (frameA a1)))) (f { s with opn := false }) ∧ (runE L (stepE (stepE t (ev 1 lin0)) (ev 2 (frameA a1)))).begun = (stepE (stepE t (ev 1 lin0)) (ev 2 (frameA a1))).begun) :
  TR (runE ([ev 1 lin0, ev 2 (frameA a1)] ++ L ++ [ev 3 (frameA a1), ev 1 lin0]) t) (lineV a1 f s) ∧ (runE ([ev 1 lin0, ev 2 (frameA a1)] ++ L ++ [ev 3 (frameA a1), ev 1 lin0]) t).begun = t.begun ∧ ((lineV a1 f s).spot = 0 ↔ (f { s with opn := false }).spot = 0) := by
 rw [run_app, run_app]
 simp only [run_cons, run_nil]
 generalize hu : runE L (stepE (stepE t (ev 1 lin0)) (ev 2 (frameA a1))) = u at *
 obtain ⟨h1, h2⟩ := hk
 have hb : u.begun = t.begun ++ [t.d.length] := h2
 have e3 : stepE u (ev 3 (frameA a1)) = if u.begun.getLast? = some u.d.length then beginE (frameA a1) { u with begun := u.begun.dropLast } else { u with begun := u.begun.dropLast } := rfl
 rw [e3, hb]
 simp only [List.getLast?_append, List.getLast?_singleton, Option.some_or, List.dropLast_concat, Option.some.injEq]
 unfold lineV
 simp only
 have hd : t.d.length = u.d.length ↔ (f { s with opn := false }).lines.length = s.lines.length := by rw [ht.d, h1.d]; exact ⟨Eq.symm, Eq.symm⟩
 have h1' : TR { u with begun := t.begun } (f { s with opn := false }) := ⟨h1.d, h1.opn, h1.some, h1.cells, h1.spot⟩
 by_cases he : t.d.length = u.d.length
 ·rw [if_pos he, if_pos (hd.1 he)]
  exact ⟨tr_close (tr_begin h1' a1).1, rfl, (tr_begin h1' a1).2⟩
 ·rw [if_neg he, if_neg (fun e => he (hd.2 e))]
  exact ⟨tr_close h1', rfl, Iff.rfl⟩
theorem tr_two {t : TSt} {s : VSt} (ht : TR t s) (f : Lin) : TR (stepE (stepE t (ev 1 lin0)) (ev 2 f)) { s with opn := false } := ⟨ht.d, rfl, (fun e => by cases e), ht.cells, ht.spot⟩
theorem Goes.line {a1 : Aro} {L : List Ev} {f : VSt → VSt} (h : Goes L f) : Goes ([ev 1 lin0, ev 2 (frameA a1)] ++ L ++ [ev 3 (frameA a1), ev 1 lin0]) (lineV a1 f) := fun t s ht => by
 obtain ⟨h1, h2, h3⟩ := h _ _ (tr_two ht (frameA a1))
 obtain ⟨k1, k2, k3⟩ := run_line (a1 := a1) ht ⟨h1, h2⟩
 exact ⟨k1, k2, k3.trans h3⟩
theorem Meets.line {a1 : Aro} {L : List Ev} {f : VSt → VSt} (h : Meets L f) : Meets ([ev 1 lin0, ev 2 (frameA a1)] ++ L ++ [ev 3 (frameA a1), ev 1 lin0]) (lineV a1 f) := fun t s ht h0 => by
 obtain ⟨h1, h2, h3⟩ := h _ _ (tr_two ht (frameA a1)) h0
 obtain ⟨k1, k2, k3⟩ := run_line (a1 := a1) ht ⟨h1, h2⟩
 exact ⟨k1, k2, fun e => h3 (k3.1 e)⟩
def boxV (f : VSt → VSt) (s : VSt) : VSt := { (f { s with opn := false }) with opn := false }
theorem node_shape {t : Int} {ats : List Att} {x : List UInt8} {ks : List Nod} {a : Aro} (ha : AroOk a) (h1 : ¬ tagC t = 1) (h5 : ¬ tagC t = 5) (p : Plc) :
  nodeV (.mk t ats x ks) a p = (if tagC t = 3 then lineV (innerA (.mk t ats x ks) a) (kidsV ks 0 (innerA (.mk t ats x ks) a) (normP t ks.length p)) else if tagC t = 2 then boxV (kidsV ks 0 (innerA (.mk t ats x ks) a) (normP t ks.length p)) else kidsV ks 0 (innerA (.mk t ats x ks) a) (normP t ks.length p)) := by
 funext s
 rw [nodeV]
 simp only [if_neg h1, if_neg h5]
 by_cases h3 : tagC t = 3
 ·rw [if_pos h3, if_pos h3]
  have e : innerA (.mk t ats x ks) a = { a with kind := headT t } := by
   rw [inner_mk, if_neg (by omega), if_pos h3]
  rw [e]
  rfl
 ·rw [if_neg h3, if_neg h3]
  by_cases h2 : tagC t = 2
  ·rw [if_pos h2, if_pos h2, inner_box ha h2]
   rfl
  ·rw [if_neg h2, if_neg h2, inner_none ha h2 h3]
def Gone (l : List Ev) (f : VSt → VSt) : Prop := ∀ t s, TR t s → s.spot ≠ 0 → TR (runE l t) (f s) ∧ (runE l t).begun = t.begun ∧ (f s).spot ≠ 0
theorem Gone.then {l m : List Ev} {f g : VSt → VSt} (h : Gone l f) (k : Gone m g) : Gone (l ++ m) (fun s => g (f s)) := fun t s ht h0 => by
 rw [run_app]
 obtain ⟨h1, h2, h3⟩ := h t s ht h0
 obtain ⟨k1, k2, k3⟩ := k _ _ h1 h3
 exact ⟨k1, k2.trans h2, k3⟩
theorem Meets.then {l m : List Ev} {f g : VSt → VSt} (h : Meets l f) (k : Gone m g) : Meets (l ++ m) (fun s => g (f s)) := fun t s ht h0 => by
 rw [run_app]
 obtain ⟨h1, h2, h3⟩ := h t s ht h0
 obtain ⟨k1, k2, k3⟩ := k _ _ h1 h3
 exact ⟨k1, k2.trans h2, k3⟩
theorem reach_cons (n : Nod) (i : Int) (p : List Int) : reachN n (i :: p) = if asideT n.tag = true ∨ i < 0 ∨ (n.kids.length : Int) ≤ i then (0, n) else ((reachN (n.kids.getD i.toNat default) p).1 + 1, (reachN (n.kids.getD i.toNat default) p).2) := by rw [reachN]
theorem norm_cons (t : Int) (m : Nat) (i : Int) (p : List Int) (k : Int) : normP t m (some (i :: p, k)) = if asideT t = true ∨ i < 0 ∨ (m : Int) ≤ i then some ([], 0) else if k < 0 then some (i :: p, 0) else some (i :: p, k) := rfl
theorem normP_nil (t : Int) (m : Nat) (k : Int) : normP t m (some ([], k)) = some ([], if k < 0 then 0 else k) := rfl
theorem aro0_ok : AroOk aro0 := by unfold AroOk aro0; decide
end Go.Proofs.Qw
namespace Go.Proofs.Qw
open Go.RowKit
theorem kidsV_nil (i : Nat) (a : Aro) (p : Plc) (s : VSt) : kidsV [] i a p s = (match p with | some ([], _) => metV s | _ => s) := by rw [kidsV.eq_def] <;> rfl
theorem kidsV_cons (n : Nod) (ks : List Nod) (i : Nat) (a : Aro) (p : Plc) (s : VSt) : kidsV (n :: ks) i a p s = kidsV ks (i + 1) a p (match p with | none => nodeV n a none s | some ([], k) => nodeV n a none (if k = (i : Int) then metV s else s) | some (j :: q, k) => if j = (i : Int) then nodeV n a (some (q, k)) s else nodeV n a none s) := by rw [kidsV.eq_def] <;> rfl
theorem textV_nil (a : Aro) (k : Option Int) (s : VSt) : textV a [] k s = (match k with | some k => if 0 ≤ k then metV s else s | none => s) := by rw [textV.eq_def] <;> rfl
theorem textV_cons (a : Aro) (c : Int) (l : List Int) (k : Option Int) (s : VSt) : textV a (c :: l) k s = textV a l (k.map (· - 1)) (match flatC c with | some c => putV a c (if k = some 0 then metV s else s) | none => if k = some 0 then metV s else s) := by rw [textV.eq_def] <;> rfl
theorem getD_app {α : Type} [Inhabited α] (d m : List α) (k : Nat) (h : k < d.length) : (d ++ m).getD k default = d.getD k default := by
 rw [List.getD_eq_getElem?_getD, List.getD_eq_getElem?_getD, List.getElem?_append_left h]
mutual
def cellsN : Nod → Nat
 | .mk t _ x ks => if tagC t = 1 then ((runesB ⟨x.toArray⟩).filterMap flatC).length else if tagC t = 5 then 1 else cellsK ks
def cellsK : List Nod → Nat
 | [] => 0
 | k :: ks => cellsN k + cellsK ks
end
def AroG (a : Aro) : Prop := AroOk a ∧ a.lists.length ≤ 6 ∧ (∀ k ∈ a.lists, k = 0 ∨ k = 1) ∧ 0 ≤ a.kind ∧ a.kind ≤ 3 ∧ linkF a.href = true
theorem frame_may {a : Aro} (h : AroG a) : mayL (frameA a) = true := by
 obtain ⟨⟨h1, h2, _, _⟩, h3, h4, h5, h6, _⟩ := h
 unfold mayL frameA
 have : (a.lists.all fun k => decide (k = 0 ∨ k = 1)) = true := by rw [List.all_eq_true]; intro k hk; exact decide_eq_true (h4 k hk)
 by_cases he : a.lists = []
 ·simp [he, h1, h2, h5, h6, mayCs]
 ·simp only [he, if_false, this]
  simp [h1, h2, h3, mayCs]
theorem linkN_ok (n : Nod) {h : List UInt8} (hh : linkF h = true) : linkF (linkN n h) = true := by
 unfold linkN
 split
 ·split
  ·rename_i h1
   unfold linkF
   rw [h1.2]
   simp
  ·exact hh
 ·exact hh
theorem inner_good (n : Nod) {a : Aro} (h : AroG a) : AroG (innerA n a) := by
 obtain ⟨h0, h3, h4, h5, h6, h7⟩ := h
 refine ⟨inner_ok n h0, ?_⟩
 unfold innerA
 split
 ·exact ⟨h3, h4, h5, h6, linkN_ok n h7⟩
 ·split
  ·refine ⟨h3, h4, ?_, ?_, h7⟩ <;> simp only [headT] <;> split <;> omega
  ·split
   ·unfold boxR
    simp only
    split <;> split
    all_goals
     rename_i g1 g2
     first
      | exact ⟨h3, h4, h5, h6, h7⟩
      | (refine ⟨?_, ?_, h5, h6, h7⟩
         · simp only [List.length_append, List.length_singleton]; (try simp only at g2); omega
         · intro k hk
           simp only [List.mem_append, List.mem_singleton] at hk
           rcases hk with hk | rfl
           · exact h4 k hk
           · omega)
   ·exact ⟨h3, h4, h5, h6, h7⟩
theorem aro0_good : AroG aro0 := ⟨aro0_ok, by decide, by simp [aro0], by decide, by decide, by unfold linkF; simp [aro0]⟩
structure VOk (s : VSt) : Prop where
 may : ∀ l ∈ s.lines, mayL l = true
 some : s.opn = true → s.lines ≠ []
 cells : s.cells = sizeL s.lines
 spot : s.spot = 0 ∨ s.spot = 1 ∨ (s.spot = 2 ∧ isD s.lines s.pos = true)
theorem isD_grow {d : List Lin} {p : Ps} (h : isD d p = true) (l : Lin) : isD (d ++ [l]) p = true := by
 unfold isD at *
 simp only [Bool.and_eq_true, decide_eq_true_eq, List.length_append, List.length_singleton] at *
 obtain ⟨⟨⟨h1, h2⟩, h3⟩, h4⟩ := h
 refine ⟨⟨⟨h1, by omega⟩, h3⟩, ?_⟩
 rw [getD_app _ _ _ (by omega)]
 exact h4
theorem isD_put {d : List Lin} {p : Ps} (h : isD d p = true) (c : Cel) : isD (addE c d) p = true := by
 by_cases hn : d = []
 ·subst hn; exact h
 obtain ⟨m, l, rfl⟩ : ∃ m l, d = m ++ [l] := ⟨d.dropLast, d.getLast hn, (List.dropLast_concat_getLast hn).symm⟩
 have e : addE c (m ++ [l]) = m ++ [{ l with cells := l.cells ++ [c] }] := by unfold addE lastD; simp
 rw [e]
 unfold isD at *
 simp only [Bool.and_eq_true, decide_eq_true_eq, List.length_append, List.length_singleton] at *
 obtain ⟨⟨⟨h1, h2⟩, h3⟩, h4⟩ := h
 refine ⟨⟨⟨h1, h2⟩, h3⟩, ?_⟩
 by_cases hl : p.line.toNat < m.length
 ·rw [getD_app _ _ _ hl] at h4 ⊢
  exact h4
 ·have e1 : p.line.toNat = m.length := by omega
  simp only [List.getD_eq_getElem?_getD, e1, List.getElem?_concat_length, Option.getD_some, List.length_append, List.length_singleton] at h4 ⊢
  omega
theorem vok_begin {a : Aro} (ha : AroG a) {s : VSt} (h : VOk s) : VOk (beginV a s) := by
 refine ⟨?_, fun _ => by simp [beginV], ?_, ?_⟩
 ·unfold beginV
  simp only [List.mem_append, List.mem_singleton]
  rintro l (hl | rfl)
  ·exact h.may l hl
  ·exact frame_may ha
 ·unfold beginV
  simp only [h.cells, sizeL, List.map_append, List.sum_append]
  simp [frameA]
 ·unfold beginV
  rcases h.spot with h1 | h1 | ⟨h1, h2⟩
  ·left; simp [h1]
  ·right; right
   simp only [h1, if_true]
   refine ⟨trivial, ?_⟩
   unfold isD
   simp
   omega
  ·right; right
   simp only [h1]
   exact ⟨rfl, isD_grow h2 _⟩
theorem vok_add {a : Aro} (ha : AroG a) {c : Int} (hc : mayR c = true ∨ c = 10) {s : VSt} (h : VOk s) (ho : s.opn = true) : VOk (addV a c s) := by
 have hs := lastD_size ⟨c, a.bits, a.href⟩ (h.some ho)
 have e : (addV a c s).lines = addE ⟨c, a.bits, a.href⟩ s.lines := rfl
 have hm : mayC ⟨c, a.bits, a.href⟩ = true := by
  unfold mayC
  have := ha.1
  simp only [Bool.and_eq_true, Bool.or_eq_true, decide_eq_true_eq]
  exact ⟨⟨⟨hc, this.2.2.1⟩, this.2.2.2⟩, ha.2.2.2.2.2⟩
 refine ⟨?_, fun _ => hs.2, ?_, ?_⟩
 ·rw [e]
  have hn := h.some ho
  obtain ⟨m, l, hd⟩ : ∃ m l, s.lines = m ++ [l] := ⟨s.lines.dropLast, s.lines.getLast hn, (List.dropLast_concat_getLast hn).symm⟩
  have hmay := h.may
  rw [hd] at hmay ⊢
  have e2 : addE ⟨c, a.bits, a.href⟩ (m ++ [l]) = m ++ [{ l with cells := l.cells ++ [⟨c, a.bits, a.href⟩] }] := by unfold addE lastD; simp
  rw [e2]
  intro x hx
  rcases List.mem_append.1 hx with hx | hx
  ·exact hmay x (by simp [hx])
  ·rw [List.mem_singleton.1 hx]
   have := hmay l (by simp)
   unfold mayL mayCs at this ⊢
   simp only [List.all_append, List.all_cons, List.all_nil, hm, Bool.and_true] at this ⊢
   exact this
 ·have := h.cells
  have := hs.1
  show s.cells + 1 = sizeL (addE ⟨c, a.bits, a.href⟩ s.lines)
  omega
 ·rcases h.spot with h1 | h1 | ⟨h1, h2⟩
  ·exact .inl h1
  ·exact .inr (.inl h1)
  ·exact .inr (.inr ⟨h1, isD_put h2 _⟩)
theorem vok_put {a : Aro} (ha : AroG a) {c : Int} (hc : mayR c = true ∨ c = 10) {s : VSt} (h : VOk s) : VOk (putV a c s) := by
 unfold putV
 split
 ·rename_i ho; exact vok_add ha hc h ho
 ·exact vok_add ha hc (vok_begin ha h) rfl
theorem end_is {d : List Lin} (h : d ≠ []) : isD d ⟨(d.length : Int) - 1, ((d.getLastD default).cells.length : Int)⟩ = true := by
 obtain ⟨m, l, rfl⟩ : ∃ m l, d = m ++ [l] := ⟨d.dropLast, d.getLast h, (List.dropLast_concat_getLast h).symm⟩
 unfold isD
 simp only [Bool.and_eq_true, decide_eq_true_eq, List.length_append, List.length_singleton]
 have e : ((m.length + 1 : Nat) : Int) - 1 = (m.length : Int) := by omega
 rw [e]
 refine ⟨⟨⟨by omega, by omega⟩, by omega⟩, ?_⟩
 simp [List.getD_eq_getElem?_getD]
theorem vok_met {s : VSt} (h : VOk s) : VOk (metV s) := by
 unfold metV
 split
 ·exact h
 ·split
  ·rename_i ho
   exact ⟨h.may, h.some, h.cells, .inr (.inr ⟨rfl, end_is (h.some ho)⟩)⟩
  ·exact ⟨h.may, h.some, h.cells, .inr (.inl rfl)⟩
theorem vok_close {s : VSt} (h : VOk s) : VOk { s with opn := false } := ⟨h.may, (fun e => by cases e), h.cells, h.spot⟩
theorem flat_mayR {c k : Int} (h0 : classF c ≠ 0) (h : flatC c = some k) : mayR k = true := by
 unfold flatC at h
 unfold mayR
 split at h
 ·cases h; rw [classF_32]; decide
 ·split at h
  ·cases h
  ·cases h
   have := classF_ge c
   simp only [decide_eq_true_eq]
   omega
theorem vok_text {a : Aro} (ha : AroG a) : ∀ (l : List Int) (k : Option Int) (s : VSt), (∀ c ∈ l, classF c ≠ 0) → VOk s → VOk (textV a l k s)
 | [], k, s, _, h => by
  rw [textV_nil]
  cases k with
  | none => exact h
  | some k => simp only; split; exact vok_met h; exact h
 | c :: l, k, s, hc, h => by
  rw [textV_cons]
  refine vok_text ha l _ _ (fun x hx => hc x (by simp [hx])) ?_
  have h1 : VOk (if k = some 0 then metV s else s) := by split; exact vok_met h; exact h
  cases hf : flatC c with
  | none => exact h1
  | some x => exact vok_put ha (.inl (flat_mayR (hc c (by simp)) hf)) h1
theorem vok_node (n : Nod) : ∀ a p s, AroG a → VOk s → VOk (nodeV n a p s) := by
 refine Nod.rec (motive_1 := fun n => ∀ a p s, AroG a → VOk s → VOk (nodeV n a p s)) (motive_2 := fun ks => ∀ i a p s, AroG a → VOk s → VOk (kidsV ks i a p s)) ?_ ?_ ?_ n
 ·intro t ats x ks ih a p s ha h
  by_cases h1 : tagC t = 1
  ·rw [nodeV]
   simp only [if_pos h1]
   exact vok_text ha _ _ _ (classF_runes _) h
  by_cases h5 : tagC t = 5
  ·rw [nodeV]
   simp only [if_neg h1, if_pos h5]
   refine vok_put ha (.inr rfl) ?_
   split
   ·exact vok_met h
   ·exact h
  rw [node_shape ha.1 h1 h5]
  have hi := inner_good (.mk t ats x ks) ha
  split
  ·unfold lineV
   simp only
   refine vok_close ?_
   split
   ·exact vok_begin hi (ih _ _ _ _ hi (vok_close h))
   ·exact ih _ _ _ _ hi (vok_close h)
  ·split
   ·exact vok_close (ih _ _ _ _ hi (vok_close h))
   ·exact ih _ _ _ _ hi h
 ·intro i a p s ha h
  rw [kidsV_nil]
  split
  ·exact vok_met h
  ·exact h
 ·intro n ks hn hks i a p s ha h
  rw [kidsV_cons]
  refine hks _ _ _ _ ha ?_
  split
  ·exact hn _ _ _ ha h
  ·refine hn _ _ _ ha ?_
   split
   ·exact vok_met h
   ·exact h
  ·split
   ·exact hn _ _ _ ha h
   ·exact hn _ _ _ ha h
def Sim (s s' : VSt) : Prop := s.lines = s'.lines ∧ s.cells = s'.cells ∧ s.opn = s'.opn
theorem sim_begin (a : Aro) {s s' : VSt} (h : Sim s s') : Sim (beginV a s) (beginV a s') := ⟨by simp only [beginV, h.1], h.2.1, rfl⟩
theorem sim_add (a : Aro) (c : Int) {s s' : VSt} (h : Sim s s') : Sim (addV a c s) (addV a c s') := ⟨by simp only [addV, h.1], by simp only [addV, h.2.1], h.2.2⟩
theorem sim_put (a : Aro) (c : Int) {s s' : VSt} (h : Sim s s') : Sim (putV a c s) (putV a c s') := by
 unfold putV
 rw [h.2.2]
 split
 ·exact sim_add a c h
 ·exact sim_add a c (sim_begin a h)
theorem sim_met (s : VSt) : Sim (metV s) s := by
 unfold metV
 split
 ·exact ⟨rfl, rfl, rfl⟩
 ·split <;> exact ⟨rfl, rfl, rfl⟩
theorem Sim.trans {a b c : VSt} (h : Sim a b) (k : Sim b c) : Sim a c := ⟨h.1.trans k.1, h.2.1.trans k.2.1, h.2.2.trans k.2.2⟩
theorem Sim.symm {a b : VSt} (h : Sim a b) : Sim b a := ⟨h.1.symm, h.2.1.symm, h.2.2.symm⟩
theorem sim_close {s s' : VSt} (h : Sim s s') : Sim { s with opn := false } { s' with opn := false } := ⟨h.1, h.2.1, rfl⟩
theorem sim_if (c : Prop) [Decidable c] (s : VSt) : Sim (if c then metV s else s) s := by split; exact sim_met s; exact ⟨rfl, rfl, rfl⟩
theorem sim_text (a : Aro) : ∀ (l : List Int) (k k' : Option Int) (s s' : VSt), Sim s s' → Sim (textV a l k s) (textV a l k' s')
 | [], k, k', s, s', h => by
  have e : ∀ (k : Option Int) (s : VSt), Sim (textV a [] k s) s := fun k s => by
   rw [textV_nil]
   cases k with
   | none => exact ⟨rfl, rfl, rfl⟩
   | some k => exact sim_if _ s
  exact ((e k s).trans h).trans (e k' s').symm
 | c :: l, k, k', s, s', h => by
  rw [textV_cons, textV_cons]
  refine sim_text a l _ _ _ _ ?_
  have h1 := ((sim_if (k = some 0) s).trans h).trans (sim_if (k' = some 0) s').symm
  cases flatC c with
  | none => exact h1
  | some x => exact sim_put a x h1
theorem sim_node (n : Nod) : ∀ a p p' s s', AroOk a → Sim s s' → Sim (nodeV n a p s) (nodeV n a p' s') := by
 refine Nod.rec (motive_1 := fun n => ∀ a p p' s s', AroOk a → Sim s s' → Sim (nodeV n a p s) (nodeV n a p' s')) (motive_2 := fun ks => ∀ i a p p' s s', AroOk a → Sim s s' → Sim (kidsV ks i a p s) (kidsV ks i a p' s')) ?_ ?_ ?_ n
 ·intro t ats x ks ih a p p' s s' ha h
  by_cases h1 : tagC t = 1
  ·rw [nodeV, nodeV]
   simp only [if_pos h1]
   exact sim_text a _ _ _ _ _ h
  by_cases h5 : tagC t = 5
  ·rw [nodeV, nodeV]
   simp only [if_neg h1, if_pos h5]
   exact sim_put a 10 (((sim_if _ s).trans h).trans (sim_if _ s').symm)
  rw [node_shape ha h1 h5, node_shape ha h1 h5]
  have hi := inner_ok (.mk t ats x ks) ha
  split
  ·unfold lineV
   simp only
   refine sim_close ?_
   have hk := ih 0 (innerA (.mk t ats x ks) a) (normP t ks.length p) (normP t ks.length p') _ _ hi (sim_close h)
   have hc : ∀ (x y : Nat) (_ : x = y) (a1 : Aro) (u v : VSt), Sim u v → u.lines.length = v.lines.length → Sim (if u.lines.length = x then beginV a1 u else u) (if v.lines.length = y then beginV a1 v else v) := by
    rintro x y rfl a1 u v huv e
    rw [e]
    split
    ·exact sim_begin _ huv
    ·exact huv
   exact hc _ _ (congrArg List.length h.1) _ _ _ hk (congrArg List.length hk.1)
  ·split
   ·exact sim_close (ih _ _ _ _ _ _ hi (sim_close h))
   ·exact ih _ _ _ _ _ _ hi h
 ·intro i a p p' s s' ha h
  have e : ∀ (p : Plc) (s : VSt), Sim (kidsV [] i a p s) s := fun p s => by
   rw [kidsV_nil]
   split
   ·exact sim_met s
   ·exact ⟨rfl, rfl, rfl⟩
  exact ((e p s).trans h).trans (e p' s').symm
 ·intro n ks hn hks i a p p' s s' ha h
  rw [kidsV_cons, kidsV_cons]
  refine hks _ _ _ _ _ _ ha ?_
  have e : ∀ (p : Plc) (s : VSt), Sim (match p with | none => nodeV n a none s | some ([], k) => nodeV n a none (if k = (i : Int) then metV s else s) | some (j :: q, k) => if j = (i : Int) then nodeV n a (some (q, k)) s else nodeV n a none s) (nodeV n a none s) := fun p s => by
   have hr : Sim s s := ⟨rfl, rfl, rfl⟩
   split
   ·exact hn _ _ _ _ _ ha hr
   ·exact hn _ _ _ _ _ ha (sim_if _ s)
   ·split
    ·exact hn _ _ _ _ _ ha hr
    ·exact hn _ _ _ _ _ ha hr
  exact ((e p s).trans (hn a none none _ _ ha h)).trans (e p' s').symm
theorem cells_text (a : Aro) : ∀ (l : List Int) (s : VSt), (textV a l none s).cells = s.cells + (l.filterMap flatC).length
 | [], s => by rw [textV_nil]; simp
 | c :: l, s => by
  rw [textV_cons]
  show (textV a l none _).cells = _
  rw [cells_text a l]
  have hp : ∀ (x : Int) (s : VSt), (putV a x s).cells = s.cells + 1 := fun x s => by
   unfold putV addV
   split
   ·rfl
   ·rfl
  cases hf : flatC c with
  | none => simp [hf]
  | some x =>
   simp [hf, hp]
   omega
theorem cells_node (n : Nod) : ∀ a s, AroOk a → (nodeV n a none s).cells = s.cells + cellsN n := by
 refine Nod.rec (motive_1 := fun n => ∀ a s, AroOk a → (nodeV n a none s).cells = s.cells + cellsN n) (motive_2 := fun ks => ∀ i a s, AroOk a → (kidsV ks i a none s).cells = s.cells + cellsK ks) ?_ ?_ ?_ n
 ·intro t ats x ks ih a s ha
  by_cases h1 : tagC t = 1
  ·rw [nodeV, cellsN]
   simp only [if_pos h1]
   exact cells_text a _ s
  by_cases h5 : tagC t = 5
  ·rw [nodeV, cellsN]
   simp only [if_neg h1, if_pos h5]
   have hn : normP t ks.length none = none := rfl
   rw [hn]
   unfold putV addV
   simp only [Option.isSome_none, Bool.false_eq_true, if_false]
   split <;> rfl
  rw [node_shape ha h1 h5, cellsN]
  simp only [if_neg h1, if_neg h5]
  have hn : normP t ks.length none = none := rfl
  rw [hn]
  have hi := inner_ok (.mk t ats x ks) ha
  split
  ·unfold lineV
   simp only
   have := ih 0 _ { s with opn := false } hi
   split
   ·unfold beginV; simp only; exact this
   ·exact this
  ·split
   ·exact ih 0 _ { s with opn := false } hi
   ·exact ih 0 _ s hi
 ·intro i a s ha
  rw [kidsV_nil, cellsK]
  rfl
 ·intro n ks hn hks i a s ha
  rw [kidsV_cons, cellsK]
  rw [hks _ _ _ ha]
  show (nodeV n a none s).cells + _ = _
  have := hn a s ha
  omega
theorem vok0 : VOk vst0 := ⟨by simp [vst0], (fun e => by cases e), rfl, .inl rfl⟩
theorem goes_ok (n : Nod) (p : Plc) : VOk (goesV n p) ∧ (goesV n p).lines ≠ [] := by
 unfold goesV
 simp only
 have h := vok_node n aro0 p vst0 aro0_good vok0
 split
 ·exact ⟨vok_begin aro0_good h, by simp [beginV]⟩
 ·rename_i hne; exact ⟨h, hne⟩
theorem goes_sim (n : Nod) (p : Plc) : Sim (goesV n p) (goesV n none) := by
 have h := sim_node n aro0 p none vst0 vst0 aro0_ok ⟨rfl, rfl, rfl⟩
 unfold goesV
 simp only
 rw [h.1]
 split
 ·exact sim_begin _ h
 ·exact h
theorem long_sim (n : Nod) (p : Plc) : longV (goesV n p) = longV (goesV n none) := by
 have h := goes_sim n p
 unfold longV
 rw [h.1, h.2.1]
end Go.Proofs.Qw
namespace Go.Proofs.Qw
open Go.RowKit
def puts (a : Aro) (l : List Int) (s : VSt) : VSt := l.foldl (fun s c => putV a c s) s
theorem puts_nil (a : Aro) (s : VSt) : puts a [] s = s := rfl
theorem puts_cons (a : Aro) (c : Int) (l : List Int) (s : VSt) : puts a (c :: l) s = puts a l (putV a c s) := rfl
theorem puts_app (a : Aro) (l m : List Int) (s : VSt) : puts a (l ++ m) s = puts a m (puts a l s) := by unfold puts; rw [List.foldl_append]
theorem put_spot (a : Aro) (c : Int) {s : VSt} (h : s.spot ≠ 0) : (putV a c s).spot ≠ 0 := by
 unfold putV addV
 split
 ·exact h
 ·unfold beginV
  simp only
  split
  ·decide
  ·exact h
theorem puts_spot (a : Aro) : ∀ (l : List Int) {s : VSt}, s.spot ≠ 0 → (puts a l s).spot ≠ 0
 | [], _, h => h
 | c :: l, _, h => puts_spot a l (put_spot a c h)
theorem met_spot (s : VSt) : (metV s).spot ≠ 0 := by
 unfold metV
 split
 ·assumption
 ·split <;> simp
theorem met_met {s : VSt} (h : s.spot ≠ 0) : metV s = s := by unfold metV; rw [if_pos h]
theorem textV_puts (a : Aro) : ∀ (l : List Int) (k : Option Int) (s : VSt), (∀ j, k = some j → j < 0) → textV a l k s = puts a (flatR l) s
 | [], k, s, h => by
  rw [textV_nil]
  cases k with
  | none => rfl
  | some j =>
   have := h j rfl
   simp only
   rw [if_neg (by omega)]
   rfl
 | c :: l, k, s, h => by
  have hk : ¬ k = some 0 := fun e => by have := h 0 e; omega
  rw [textV_cons, if_neg hk, textV_puts a l]
  ·unfold flatR
   cases hf : flatC c with
   | none => simp [hf]
   | some x => simp only [List.filterMap_cons, hf]; rw [puts_cons]
  ·rintro j hj
   cases k with
   | none => cases hj
   | some i =>
    have := h i rfl
    simp at hj
    omega
theorem textV_at (a : Aro) : ∀ (l : List Int) (k : Nat) (s : VSt), textV a l (some (k : Int)) s = puts a (flatR (l.drop k)) (metV (puts a (flatR (l.take k)) s))
 | [], k, s => by
  rw [textV_nil]
  simp only
  rw [if_pos (Int.natCast_nonneg _)]
  simp [flatR, puts]
 | c :: l, 0, s => by
  rw [textV_cons, textV_puts a l]
  ·simp only [List.drop_zero, List.take_zero]
   unfold flatR
   cases hf : flatC c with
   | none => simp [hf, puts]
   | some x => simp [hf, puts]
  ·rintro j hj
   simp at hj
   omega
 | c :: l, k + 1, s => by
  rw [textV_cons]
  have h0 : ¬ (some ((k + 1 : Nat) : Int)) = some 0 := fun e => by cases e
  rw [if_neg h0]
  have h1 : (some ((k + 1 : Nat) : Int)).map (· - 1) = some (k : Int) := by simp
  rw [h1, textV_at a l k]
  simp only [List.drop_succ_cons, List.take_succ_cons]
  unfold flatR
  cases hf : flatC c with
  | none => simp [hf]
  | some x => simp only [List.filterMap_cons, hf]; rw [puts_cons]
def stT (a : Aro) (l : List Int) (m : Option Nat) (s : VSt) (i : Nat) : VSt :=
 match m with
 | none => puts a (l.take i) s
 | some m => if i ≤ m then puts a (l.take i) s else puts a ((l.drop m).take (i - m)) (metV (puts a (l.take m) s))
theorem stT_zero (a : Aro) (l : List Int) (m : Option Nat) (s : VSt) : stT a l m s 0 = s := by
 cases m with
 | none => rfl
 | some m => unfold stT; simp only; rw [if_pos (Nat.zero_le _)]; rfl
theorem take_get {l : List Int} {i : Nat} {c : Int} (h : l[i]? = some c) : l.take (i + 1) = l.take i ++ [c] := by
 rw [List.take_add_one, h]; rfl
theorem stT_step (a : Aro) {l : List Int} (m : Option Nat) (s : VSt) {i : Nat} {c : Int} (h : l[i]? = some c) :
  stT a l m s (i + 1) = putV a c (if m = some i then metV (stT a l m s i) else stT a l m s i) := by
 cases m with
 | none =>
  unfold stT
  simp only
  rw [take_get h, puts_app, if_neg (by simp)]
  rfl
 | some m =>
  unfold stT
  simp only
  by_cases h1 : i + 1 ≤ m
  ·have h2 : i ≤ m := by omega
   have h3 : ¬ (some m = some i) := fun e => by cases e; omega
   rw [if_pos h1, if_neg h3, if_pos h2, take_get h, puts_app]
   rfl
  ·rw [if_neg h1]
   by_cases h2 : m = i
   ·subst h2
    rw [if_pos rfl, if_pos (Nat.le_refl _), show m + 1 - m = 0 + 1 by omega]
    rw [take_get (l := l.drop m) (i := 0) (c := c) (by rw [List.getElem?_drop]; simpa using h), puts_app]
    rfl
   ·have h3 : ¬ (some m = some i) := fun e => h2 (by cases e; rfl)
    have h4 : ¬ i ≤ m := by omega
    rw [if_neg h3, if_neg h4, show i + 1 - m = (i - m) + 1 by omega]
    rw [take_get (l := l.drop m) (i := i - m) (c := c) (by rw [List.getElem?_drop, show m + (i - m) = i by omega]; exact h), puts_app]
    rfl
theorem stT_none (a : Aro) (l : List Int) (s : VSt) : stT a (flatR l) none s (flatR l).length = textV a l none s := by
 rw [textV_puts a l none s (fun _ h => by cases h)]
 unfold stT
 simp
theorem stT_some (a : Aro) (l : List Int) (k : Nat) (s : VSt) : metV (stT a (flatR l) (some (flatR (l.take k)).length) s (flatR l).length) = textV a l (some (k : Int)) s := by
 rw [textV_at]
 have e : flatR l = flatR (l.take k) ++ flatR (l.drop k) := by
  unfold flatR
  rw [← List.filterMap_append, List.take_append_drop]
 generalize flatR (l.take k) = x at *
 generalize flatR (l.drop k) = y at *
 rw [e]
 unfold stT
 simp only
 by_cases h : y = []
 ·subst h
  rw [if_pos (by simp)]
  simp [puts]
 ·have hl : 0 < y.length := List.length_pos_iff.2 h
  rw [if_neg (by rw [List.length_append]; omega)]
  rw [List.drop_left, List.take_left, List.length_append, show x.length + y.length - x.length = y.length by omega, List.take_length]
  exact met_met (puts_spot a _ (met_spot _))
def capV (s : VSt) : Nat := s.cells + s.lines.length
theorem cap_begin (a : Aro) (s : VSt) : capV (beginV a s) = capV s + 1 := by unfold capV beginV; simp; omega
theorem lastD_len (f : Lin → Lin) (d : List Lin) : (lastD f d).length = d.length := by
 unfold lastD
 cases h : d.getLast? with
 | none => rw [List.getLast?_eq_none_iff] at h; subst h; rfl
 | some x =>
  have : d ≠ [] := fun e => by subst e; cases h
  have := List.length_pos_iff.2 this
  simp
  omega
theorem cap_add (a : Aro) (c : Int) (s : VSt) : capV (addV a c s) = capV s + 1 := by unfold capV addV; simp only [lastD_len]; omega
theorem cap_put (a : Aro) (c : Int) (s : VSt) : capV (putV a c s) ≤ capV s + 2 := by
 unfold putV
 rw [cap_add]
 split
 ·omega
 ·rw [cap_begin]; omega
theorem cap_met (s : VSt) : capV (metV s) = capV s := by
 unfold metV
 split
 ·rfl
 ·split <;> rfl
theorem cap_puts (a : Aro) : ∀ (l : List Int) (s : VSt), capV (puts a l s) ≤ capV s + 2 * l.length
 | [], s => by rw [puts_nil]; simp
 | c :: l, s => by
  rw [puts_cons]
  have h1 := cap_puts a l (putV a c s)
  have h2 := cap_put a c s
  rw [List.length_cons]
  omega
theorem flatR_len (l : List Int) : (flatR l).length ≤ l.length := List.length_filterMap_le _ _
theorem cap_stT (a : Aro) (l : List Int) (m : Option Nat) (s : VSt) (i : Nat) : capV (stT a l m s i) ≤ capV s + 2 * l.length := by
 unfold stT
 cases m with
 | none =>
  have h := cap_puts a (l.take i) s
  have := List.length_take_le i l
  simp only
  have : (l.take i).length ≤ l.length := by rw [List.length_take]; omega
  omega
 | some m =>
  simp only
  split
  ·have h := cap_puts a (l.take i) s
   have : (l.take i).length ≤ l.length := by rw [List.length_take]; omega
   omega
  ·have h := cap_puts a ((l.drop m).take (i - m)) (metV (puts a (l.take m) s))
   have h2 := cap_puts a (l.take m) s
   rw [cap_met] at h
   have e1 : ((l.drop m).take (i - m)).length ≤ l.length - m := by rw [List.length_take, List.length_drop]; omega
   have e2 : (l.take m).length ≤ min m l.length := by rw [List.length_take]; omega
   omega
theorem cap_text (a : Aro) (l : List Int) (k : Option Int) (s : VSt) : capV (textV a l k s) ≤ capV s + 2 * l.length := by
 by_cases h : ∀ j, k = some j → j < 0
 ·rw [textV_puts a l k s h]
  have := cap_puts a (flatR l) s
  have := flatR_len l
  omega
 ·obtain ⟨j, rfl, hj⟩ : ∃ j, k = some j ∧ 0 ≤ j := by
   cases k with
   | none => exact absurd (fun _ e => by cases e) h
   | some j => exact ⟨j, rfl, by
     by_cases hj : 0 ≤ j
     ·exact hj
     ·exact absurd (fun i e => by cases e; omega) h⟩
  obtain ⟨n, rfl⟩ : ∃ n : Nat, j = (n : Int) := ⟨j.toNat, by omega⟩
  rw [textV_at]
  have h1 := cap_puts a (flatR (l.drop n)) (metV (puts a (flatR (l.take n)) s))
  have h2 := cap_puts a (flatR (l.take n)) s
  rw [cap_met] at h1
  have h3 := flatR_len (l.drop n)
  have h4 := flatR_len (l.take n)
  rw [List.length_drop] at h3
  rw [List.length_take] at h4
  omega
theorem runesGo_len (s : ByteArray) : ∀ (f pos : Nat), (runesGo s f pos).length ≤ f
 | 0, _ => by simp [runesGo]
 | f + 1, pos => by
  unfold runesGo
  split
  ·have := runesGo_len s f (pos + (Utf8.decode s pos).2)
   rw [List.length_cons]; omega
  ·simp
mutual
def capM : Nod → Nat | .mk _ _ x ks => 2 + 2 * x.length + capMs ks
def capMs : List Nod → Nat | [] => 0 | k :: ks => capM k + capMs ks
end
mutual
def AvN : Nod → Prop | .mk _ ats _ ks => (∀ a ∈ ats, a.value.length ≤ 100000) ∧ AvK ks
def AvK : List Nod → Prop | [] => True | k :: ks => AvN k ∧ AvK ks
end
theorem cap_parts (n : Nod) : capM n = 2 + 2 * n.text.length + capMs n.kids := by cases n; rw [capM]; rfl
theorem av_parts {n : Nod} (h : AvN n) : (∀ a ∈ n.attrs, a.value.length ≤ 100000) ∧ AvK n.kids := by cases n; rw [AvN] at h; exact h
theorem av_mem : ∀ {l : List Nod} {n : Nod}, AvK l → n ∈ l → AvN n
 | k :: ks, n, h, hn => by
  rw [AvK] at h
  rcases List.mem_cons.1 hn with rfl | hn
  ·exact h.1
  ·exact av_mem h.2 hn
theorem capMs_drop {l : List Nod} {k : Nat} {x : Nod} (h : l.drop k = x :: l.drop (k + 1)) : capMs (l.drop k) = capM x + capMs (l.drop (k + 1)) := by rw [h, capMs]
theorem cap_all (n : Nod) : ∀ a p s, capV (nodeV n a p s) ≤ capV s + capM n := by
 refine Nod.rec (motive_1 := fun n => ∀ a p s, capV (nodeV n a p s) ≤ capV s + capM n) (motive_2 := fun ks => ∀ i a p s, capV (kidsV ks i a p s) ≤ capV s + capMs ks) ?_ ?_ ?_ n
 ·intro t ats x ks ih a p s
  rw [capM]
  by_cases h1 : tagC t = 1
  ·rw [nodeV]
   simp only [if_pos h1]
   have h2 := cap_text a (runesB ⟨x.toArray⟩) ((normP t ks.length p).map (·.2)) s
   have h3 : (runesB ⟨x.toArray⟩).length ≤ x.length := by
    have := runesGo_len ⟨x.toArray⟩ x.length 0
    show (runesGo ⟨x.toArray⟩ (⟨x.toArray⟩ : ByteArray).size 0).length ≤ x.length
    have e : (⟨x.toArray⟩ : ByteArray).size = x.length := by simp [ByteArray.size]
    rw [e]
    simpa using this
   omega
  by_cases h5 : tagC t = 5
  ·rw [nodeV]
   simp only [if_neg h1, if_pos h5]
   have h2 := cap_put a 10 (if (normP t ks.length p).isSome = true then metV s else s)
   have h3 : capV (if (normP t ks.length p).isSome = true then metV s else s) = capV s := by split; exact cap_met s; rfl
   omega
  by_cases h3 : tagC t = 3
  ·rw [nodeV]
   simp only [if_neg h1, if_neg h5, if_pos h3]
   have h := ih 0 { a with kind := headT t } (normP t ks.length p) { s with opn := false }
   have e : capV ({ s with opn := false } : VSt) = capV s := rfl
   split
   ·refine Nat.le_trans (Nat.le_of_eq (cap_begin { a with kind := headT t } (kidsV ks 0 { a with kind := headT t } (normP t ks.length p) { s with opn := false }))) ?_
    omega
   ·refine Nat.le_trans (Nat.le_of_eq (rfl : _ = capV (kidsV ks 0 { a with kind := headT t } (normP t ks.length p) { s with opn := false }))) ?_
    omega
  by_cases h2 : tagC t = 2
  ·rw [nodeV]
   simp only [if_neg h1, if_neg h5, if_neg h3, if_pos h2]
   have h := ih 0 (boxA t a) (normP t ks.length p) { s with opn := false }
   have e : capV ({ s with opn := false } : VSt) = capV s := rfl
   refine Nat.le_trans (Nat.le_of_eq (rfl : _ = capV (kidsV ks 0 (boxA t a) (normP t ks.length p) { s with opn := false }))) ?_
   omega
  ·rw [nodeV]
   simp only [if_neg h1, if_neg h5, if_neg h3, if_neg h2]
   have h := ih 0 { a with bits := bitsN (.mk t ats x ks) a.bits, href := linkN (.mk t ats x ks) a.href } (normP t ks.length p) s
   omega
 ·intro i a p s
  rw [kidsV_nil]
  split
  ·rw [cap_met]; omega
  ·omega
 ·intro k ks hk hks i a p s
  rw [kidsV_cons, capMs]
  refine Nat.le_trans (hks _ _ _ _) ?_
  split
  ·have := hk a none s; omega
  ·have h3 : ∀ c : Prop, [Decidable c] → capV (if c then metV s else s) = capV s := fun c _ => by split; exact cap_met s; rfl
   refine Nat.le_trans (Nat.add_le_add_right (hk _ _ _) _) ?_
   rw [h3]
   omega
  ·split
   ·refine Nat.le_trans (Nat.add_le_add_right (hk _ _ _) _) ?_
    omega
   ·have := hk a none s; omega
structure OpW (s : VSt) : Prop where
 some : s.opn = true → s.lines ≠ []
 cells : s.cells = sizeL s.lines
theorem lastD_snoc (f : Lin → Lin) (m : List Lin) (l : Lin) : lastD f (m ++ [l]) = m ++ [f l] := by unfold lastD; simp
theorem snoc_of {d : List Lin} (h : d ≠ []) : ∃ m l, d = m ++ [l] := ⟨d.dropLast, d.getLast h, (List.dropLast_concat_getLast h).symm⟩
theorem opw_begin (a : Aro) {s : VSt} (h : OpW s) : OpW (beginV a s) := ⟨fun _ => by simp [beginV], by
 show s.cells = sizeL (s.lines ++ [frameA a])
 rw [h.cells]
 simp [sizeL, frameA]⟩
theorem opw_add (a : Aro) (c : Int) {s : VSt} (h : OpW s) (hl : s.lines ≠ []) : OpW (addV a c s) := by
 have hs := lastD_size ⟨c, a.bits, a.href⟩ hl
 exact ⟨fun _ => hs.2, by
  have h1 := h.cells
  have h2 := hs.1
  show s.cells + 1 = sizeL (addE ⟨c, a.bits, a.href⟩ s.lines)
  omega⟩
theorem opw_put (a : Aro) (c : Int) {s : VSt} (h : OpW s) : OpW (putV a c s) := by
 unfold putV
 by_cases ho : s.opn = true
 ·rw [if_pos ho]; exact opw_add a c h (h.some ho)
 ·rw [if_neg ho]; exact opw_add a c (opw_begin a h) (by simp [beginV])
theorem opw_met {s : VSt} (h : OpW s) : OpW (metV s) := by
 unfold metV
 split
 ·exact h
 ·split
  ·exact ⟨h.some, h.cells⟩
  ·exact ⟨h.some, h.cells⟩
theorem opw_close {s : VSt} (h : OpW s) : OpW { s with opn := false } := ⟨(fun e => by cases e), h.cells⟩
theorem opw_puts (a : Aro) : ∀ (l : List Int) {s : VSt}, OpW s → OpW (puts a l s)
 | [], _, h => h
 | c :: l, _, h => opw_puts a l (opw_put a c h)
theorem opw_stT (a : Aro) (l : List Int) (m : Option Nat) {s : VSt} (i : Nat) (h : OpW s) : OpW (stT a l m s i) := by
 unfold stT
 cases m with
 | none => exact opw_puts a _ h
 | some m =>
  simp only
  split
  ·exact opw_puts a _ h
  ·exact opw_puts a _ (opw_met (opw_puts a _ h))
theorem opw_text (a : Aro) : ∀ (l : List Int) (k : Option Int) {s : VSt}, OpW s → OpW (textV a l k s)
 | [], k, s, h => by
  rw [textV_nil]
  cases k with
  | none => exact h
  | some k => simp only; split; exact opw_met h; exact h
 | c :: l, k, s, h => by
  rw [textV_cons]
  have h1 : OpW (if k = some 0 then metV s else s) := by split; exact opw_met h; exact h
  refine opw_text a l _ ?_
  cases flatC c with
  | none => exact h1
  | some x => exact opw_put a _ h1
def ArW (a : Aro) : Prop := 0 ≤ a.quote ∧ a.quote ≤ 6 ∧ a.lists.length ≤ 6
theorem arw_box (t : Int) {a : Aro} (h : ArW a) : ArW (boxA t a) := by
 unfold boxA
 obtain ⟨h1, h2, h3⟩ := h
 split
 ·exact ⟨by simp only; omega, by simp only; omega, h3⟩
 ·split
  ·rename_i h4
   exact ⟨h1, h2, by simp only [List.length_append, List.length_singleton]; omega⟩
  ·exact ⟨h1, h2, h3⟩
theorem opw_node (n : Nod) : ∀ a p s, OpW s → OpW (nodeV n a p s) := by
 refine Nod.rec (motive_1 := fun n => ∀ a p s, OpW s → OpW (nodeV n a p s)) (motive_2 := fun ks => ∀ i a p s, OpW s → OpW (kidsV ks i a p s)) ?_ ?_ ?_ n
 ·intro t ats x ks ih a p s h
  by_cases h1 : tagC t = 1
  ·rw [nodeV]; simp only [if_pos h1]; exact opw_text a _ _ h
  by_cases h5 : tagC t = 5
  ·rw [nodeV]; simp only [if_neg h1, if_pos h5]
   refine opw_put a 10 ?_
   split
   ·exact opw_met h
   ·exact h
  by_cases h3 : tagC t = 3
  ·rw [nodeV]; simp only [if_neg h1, if_neg h5, if_pos h3]
   have h4 := ih 0 { a with kind := headT t } (normP t ks.length p) _ (opw_close h)
   split
   ·exact opw_close (opw_begin _ h4)
   ·exact opw_close h4
  by_cases h2 : tagC t = 2
  ·rw [nodeV]; simp only [if_neg h1, if_neg h5, if_neg h3, if_pos h2]
   exact opw_close (ih 0 (boxA t a) (normP t ks.length p) _ (opw_close h))
  ·rw [nodeV]; simp only [if_neg h1, if_neg h5, if_neg h3, if_neg h2]; exact ih _ _ _ _ h
 ·intro i a p s h
  rw [kidsV_nil]
  split
  ·exact opw_met h
  ·exact h
 ·intro k ks hk hks i a p s h
  rw [kidsV_cons]
  refine hks _ _ _ _ ?_
  split
  ·exact hk _ _ _ h
  ·exact hk _ _ _ (by split; exact opw_met h; exact h)
  ·split
   ·exact hk _ _ _ h
   ·exact hk _ _ _ h
end Go.Proofs.Qw
namespace Go.Proofs.YtjpgffihafknlaaGreatDoor
open Go.RowKit
open Go.Proofs.Qw
theorem src_at {P : Program} {st t : TypeId} {k : Nat} (hT : RowT P st t k) (w : World) (l : List Value) (hl : l.length = k) (h1 : ∀ u ∈ l, u.oneCell' = true) (c : Nat) {B : Nat} (hB : B = w.heap.size) : Src P k st (.slice (some ⟨B, 0, none⟩) 1 c) 1 l (w.alloc (.cells l.toArray t)) := hB ▸ src_one hT w l hl h1 c
end Go.Proofs.YtjpgffihafknlaaGreatDoor
namespace Go.Proofs.Qw
open Go.RowKit Go.Proofs.YtjpgffihafknlaaGreatDoor
def plainF (c : Int) : Int × Bool := if c = 9 ∨ c = 12 ∨ c = 13 then (32, true) else if c = 10 then (c, true) else (c, !(classF c == 1))
theorem plain_clean (c : Int) : (if (plainF c).2 = true then some (plainF c).1 else none) = cleanR c := by
 unfold plainF cleanR
 split
 ·rfl
 ·split
  ·rename_i h; subst h; rfl
  ·by_cases h : classF c = 1
   ·rw [if_pos h]; simp [h]
   ·rw [if_neg h]; simp [h]
end Go.Proofs.Qw
namespace Go.Proofs.YtjpgffihafknlaaGreatDoor
open Go.RowKit
open Go.Proofs.Qw
attribute [local go_sem] Oper.semAt_some
theorem rowRune : RowT Tryz.prog 90 21 1 := RowT.mk' (y := 4) Tryz.underlying90 (by kernel_rfl) (by decide) (z := .int .i32 0) (by decide)
theorem eltRune : Elt 21 1 (rdOf encRune) := elt_of _ (by decide) (fun _ => rfl) (fun x u hu => by simp [encRune] at hu; subst hu; rfl)
theorem oneV_rune (r : Int) : ∀ u ∈ [Value.int .i32 r], u.oneCell' = true := fun u hu => by simp at hu; subst hu; rfl
theorem plain_any (c : Int) (w : World) :
  Calls Tryz.prog 84 #[.int .i32 c] w fun e w' => e = .returned (.tuple #[.int .i32 (plainF c).1, .bool (plainF c).2]) ∧ w' = w := by
 have HC := Lib.hid (class_any c w)
 by_cases h9 : c = 9
 ·subst h9
  clear HC
  go_enter Tryz.func84, Tryz.ntmps84
  go_wp2_with fail
  go_ret2
  rw [show plainF 9 = (32, true) from if_pos (by decide)]
  exact ⟨rfl, rfl⟩
 by_cases h12 : c = 12
 ·subst h12
  clear HC
  go_enter Tryz.func84, Tryz.ntmps84
  go_wp2_with fail
  go_ret2
  rw [show plainF 12 = (32, true) from if_pos (by decide)]
  exact ⟨rfl, rfl⟩
 by_cases h13 : c = 13
 ·subst h13
  clear HC
  go_enter Tryz.func84, Tryz.ntmps84
  go_wp2_with fail
  go_ret2
  rw [show plainF 13 = (32, true) from if_pos (by decide)]
  exact ⟨rfl, rfl⟩
 by_cases h10 : c = 10
 ·subst h10
  clear HC
  go_enter Tryz.func84, Tryz.ntmps84
  go_wp2_with fail
  go_ret2
  rw [show plainF 10 = (10, true) from (if_neg (by decide)).trans (if_pos rfl)]
  exact ⟨rfl, rfl⟩
 have HR : Hid (plainF c = (c, !(classF c == 1))) := Lib.hid (by unfold plainF; rw [if_neg (by omega), if_neg h10])
 have b9 : (c == 9) = false := by simpa using h9
 have b12 : (c == 12) = false := by simpa using h12
 have b13 : (c == 13) = false := by simpa using h13
 have b10 : (c == 10) = false := by simpa using h10
 clear h9 h12 h13 h10
 generalize classF c = k at *
 go_enter Tryz.func84, Tryz.ntmps84
 go_wp2_with (go_at_call 114; refine HC.out.mono ?_; rintro e w' ⟨rfl, rfl⟩)
 go_ret2
 rw [HR.out]
 exact ⟨rfl, rfl⟩
theorem runesGo_width (s : ByteArray) : ∀ (f pos : Nat), (runesGo s f pos).length ≤ f
 | 0, _ => Nat.le_refl _
 | f + 1, pos => by
  unfold runesGo
  split
  ·have := runesGo_width s f (pos + (Utf8.decode s pos).2)
   rw [List.length_cons]; omega
  ·simp
theorem runesB_length (s : ByteArray) : (runesB s).length ≤ s.size := runesGo_width s _ _
set_option maxRecDepth 100000 in
set_option maxHeartbeats 4000000 in
theorem each_any (s : ByteArray) (g : Nat) (F : Int → Int × Bool) (eg : ∀ args w, (callFunc g args).run Tryz.prog w = .ok (.enter g args) w)
  (hF : ∀ c w, Calls Tryz.prog g #[.int .i32 c] w fun e w' => e = .returned (.tuple #[.int .i32 (F c).1, .bool (F c).2]) ∧ w' = w) (w : World) (hs : s.size ≤ 10000000) :
  Calls Tryz.prog 82 #[.string s, .func (.func g) #[] #[]] w fun e w' => ∃ v, e = .returned v ∧ RunesR true w' (fun b => w.heap.size ≤ b) v ((runesB s).filterMap fun c => if (F c).2 = true then some (F c).1 else none) ∧ Below w.heap.size w w' := by
 obtain ⟨G, hG⟩ : ∃ G : Int → Option Int, (fun c => if (F c).2 = true then some (F c).1 else none) = G := ⟨_, rfl⟩
 have HG : Hid (∀ c, G c = if (F c).2 = true then some (F c).1 else none) := Lib.hid fun c => by rw [← hG]
 rw [hG]
 have HF := Lib.hid hF
 clear hG hF
 go_enter Tryz.func82, Tryz.ntmps82
 go_wp2_with fail
 go_loopw [5] (fun l wr => ∃ (pos fuel : Nat) (acc : List Int), Hid (RunesR true wr (fun b => w.heap.size + 1 ≤ b) l acc) ∧ wr.heap[w.heap.size]? = some (.stringIter s pos) ∧ Hid (Below w.heap.size w wr) ∧ Hid (acc ++ (runesGo s fuel pos).filterMap G = (runesB s).filterMap G) ∧ s.size ≤ pos + fuel) (fun _ wr => s.size - wr.iterPos w.heap.size)
 case atStart => exact ⟨0, s.size, [], Lib.hid (SliceR.nil _ _ _ _ _ _), World.iter_heap w s 0, Lib.hid ((Below.refl _ _).alloc (Nat.le_refl _) _), Lib.hid rfl, by omega⟩
 case round =>
  obtain ⟨pos, fuel, acc, HO, hit, HB, HA, hfu⟩ := hrel
  have hsz : w.heap.size < wr.heap.size := (Array.getElem?_eq_some_iff.1 hit).1
  by_cases hp : pos < s.size
  ·have hwd := Lib.decode_width_pos s pos hp
   have hd1 := decode_le s pos
   have hnx : ∀ ty, (Instr.next (.pointer (some ⟨w.heap.size, 0, none⟩)) true ty).run Tryz.prog wr = .ok (.tuple #[.bool true, .int .i64 pos, .int .i32 (Utf8.decode s pos).1]) (wr.iterAt w.heap.size s (pos + (Utf8.decode s pos).2)) := fun ty => Lib.run_next_any_at wr w.heap.size s pos ty hit hp
   have hit2 := Lib.iterAt_heap wr w.heap.size s pos (pos + (Utf8.decode s pos).2) hit
   have hbw2 := Lib.below_iterAt HB.out (k := w.heap.size) (Nat.le_refl _) s (pos + (Utf8.decode s pos).2)
   have hsz2 : (wr.iterAt w.heap.size s (pos + (Utf8.decode s pos).2)).heap.size = wr.heap.size := Lib.iterAt_size _ _ _ _
   have HO2 := Lib.hid (SliceR.stable (w' := wr.iterAt w.heap.size s (pos + (Utf8.decode s pos).2)) (S' := fun b => w.heap.size + 1 ≤ b) (rdOf_stable encRune) HO.out (Keeps.only (b := w.heap.size) hsz2 (fun d hd => Lib.iterAt_other _ _ _ _ _ hd) (by simp)) (fun _ h _ => h))
   obtain ⟨f, rfl⟩ : ∃ f, fuel = f + 1 := ⟨fuel - 1, by omega⟩
   have HA2 : Hid (acc ++ (((Utf8.decode s pos).1 : Int) :: runesGo s f (pos + (Utf8.decode s pos).2)).filterMap G = (runesB s).filterMap G) := Lib.hid (by have := HA.out; unfold runesGo at this; rw [if_pos hp] at this; exact this)
   obtain ⟨wi, hwi⟩ : ∃ wi, wr.iterAt w.heap.size s (pos + (Utf8.decode s pos).2) = wi := ⟨_, rfl⟩
   rw [hwi] at hnx hit2 hbw2 hsz2 HO2
   obtain ⟨c, hcc⟩ : ∃ c : Int, ((Utf8.decode s pos).1 : Int) = c := ⟨_, rfl⟩
   rw [hcc] at hnx HA2
   obtain ⟨pos', hpp⟩ : ∃ pos', pos + (Utf8.decode s pos).2 = pos' := ⟨_, rfl⟩
   have hpl : pos + 1 ≤ pos' := by omega
   rw [hpp] at hit2 HA2
   obtain ⟨r, t, hrt⟩ : ∃ r t, F c = (r, t) := ⟨_, _, rfl⟩
   have HFc : Hid (∀ W, Calls Tryz.prog g #[.int .i32 c] W fun e w' => e = .returned (.tuple #[.int .i32 r, .bool t]) ∧ w' = W) := Lib.hid fun W => by
    have := HF.out c W
    rw [hrt] at this
    exact this
   have hGc := HG.out c
   rw [hrt] at hGc
   have hm1 : (wi.iterPos w.heap.size) = pos' := by simp only [World.iterPos, hit2]
   have hm0 : (wr.iterPos w.heap.size) = pos := by simp only [World.iterPos, hit]
   have HB2 := Lib.hid hbw2
   have HIT := Lib.hid hit2
   have hlw : w.heap.size < wi.heap.size := (Array.getElem?_eq_some_iff.1 hit2).1
   have HM := Lib.hid (And.intro hm0 hm1)
   clear hit hit2 hbw2 HB HA HO HF HG hcc hpp hwi hrt hd1 hwd hm0 hm1 hsz2
   cases t
   ·have HA3 : Hid (acc ++ (runesGo s f pos').filterMap G = (runesB s).filterMap G) := Lib.hid (by have := HA2.out; rw [List.filterMap_cons, hGc] at this; exact this)
    clear hGc
    go_wp2_with (go_at_fn g; refine (HFc.out _).mono ?_; rintro e w1 ⟨rfl, rfl⟩)
    go_roundw
    case rel => exact ⟨pos', f, acc, HO2, HIT.out, HB2, HA3, by omega⟩
    case measure => rw [HM.out.1, HM.out.2]; omega
   ·have HA3 : Hid ((acc ++ [r]) ++ (runesGo s f pos').filterMap G = (runesB s).filterMap G) := Lib.hid (by have := HA2.out; rw [List.filterMap_cons, hGc] at this; simpa using this)
    have HL : Hid (acc.length + 1 ≤ 10000000) := Lib.hid (by
     have h1 := congrArg List.length HA3.out
     have h2 := List.length_filterMap_le G (runesB s)
     have h3 := runesB_length s
     simp only [List.length_append, List.length_singleton] at h1
     omega)
    clear hGc
    go_wp2_with (first
     | (go_at_fn g; refine (HFc.out _).mono ?_; rintro e w1 ⟨rfl, rfl⟩)
     | (at_builtin; refine wpList_append_R _ rfl _ _ 90 90 rfl rowRune eltRune (w.heap.size + 1) _ _ (xs := acc) (ys := [r]) (news := [.int .i32 r]) rfl rfl (SliceR.below (rdOf_stable _) HO2.out ((Below.refl _ _).alloc (Nat.le_refl _) _)) (by simp; omega) (src_at rowRune _ _ rfl (oneV_rune r) 1 rfl) (NewsR.one rfl rfl) (by have := HL.out; simp only [List.length_singleton]; omega) ?_; intro v' w2 hR hB' _ _; have HR := Lib.hid hR; have HB' := Lib.hid hB'; clear hR hB'))
    have hi2 := (HB'.out.block w.heap.size (Nat.lt_succ_self _)).trans (heap_old _ _ HIT.out)
    go_roundw
    case rel => exact ⟨pos', f, acc ++ [r], HR, hi2, Lib.hid ((HB2.out.alloc HB2.out.size _).trans (HB'.out.mono (Nat.le_succ _))), HA3, by omega⟩
    case measure => rw [HM.out.1]; simp only [World.iterPos, hi2]; omega
  ·have hnx : ∀ ty, (Instr.next (.pointer (some ⟨w.heap.size, 0, none⟩)) true ty).run Tryz.prog wr = .ok (.tuple #[.bool false]) wr := fun ty => Lib.run_next_end_at wr w.heap.size s pos ty hit hp
   have HA2 : Hid (acc = (runesB s).filterMap G) := Lib.hid (by
    have := HA.out
    cases fuel with
    | zero => simpa [runesGo] using this
    | succ f => unfold runesGo at this; rw [if_neg hp] at this; simpa using this)
   clear HF HG HA hit
   go_wp2_with fail
   go_ret
   refine ⟨_, rfl, ?_, HB.out⟩
   rw [← HA2.out]
   exact SliceR.stable (rdOf_stable _) HO.out (Keeps.refl _ _) (fun b h _ => Nat.le_of_succ_le h)
end Go.Proofs.YtjpgffihafknlaaGreatDoor
namespace Go.Proofs.Qw
open Go.RowKit
theorem SliceR.pre {α : Type} {t : TypeId} {k : Nat} {R : Rd α} {w : World} {S : Nat → Prop} {a : Option Addr} {n c m : Nat} {xs : List α} (h : SliceR t k R false w S (.slice a n c) xs) (hm : m ≤ xs.length) : SliceR t k R false w S (.slice a m c) (xs.take m) := by
 obtain ⟨a', c', e, h2, h3, hx⟩ := h
 cases e
 have hl : (xs.take m).length = m := by rw [List.length_take]; omega
 refine ⟨a, c, by rw [hl], by rw [hl]; omega, h3, ?_⟩
 rcases hx with ⟨h0, _⟩ | ⟨b, o, rfl, hb, hz, _, he⟩
 ·exact .inl ⟨by rw [h0]; simp, fun h => by cases h⟩
 ·refine .inr ⟨b, o, rfl, hb, hz, (fun h => by cases h), fun i x hx => he i x ?_⟩
  rw [List.getElem?_take] at hx
  split at hx
  ·exact hx
  ·cases hx
end Go.Proofs.Qw
namespace Go.Proofs.YtjpgffihafknlaaGreatDoor
open Go.RowKit
open Go.Proofs.Qw
attribute [local go_sem ↓] Go.wp_at_zero Go.wp_at_succ
def flatP (c : Int) : Int × Bool := plainF (if c = 10 then 32 else c)
theorem flat_flat (c : Int) : (if (flatP c).2 = true then some (flatP c).1 else none) = flatC c := by
 unfold flatP
 rw [plain_clean]
 unfold cleanR flatC
 by_cases h : c = 10
 ·subst h
  rw [if_pos rfl]
  have : classF 32 ≠ 1 := by rw [classF_32]; decide
  simp [this]
 ·simp only [h, if_false, false_or]
theorem flat1_any (c : Int) (w : World) :
  Calls Tryz.prog 83 #[.int .i32 c] w fun e w' => e = .returned (.tuple #[.int .i32 (flatP c).1, .bool (flatP c).2]) ∧ w' = w := by
 by_cases h : c = 10
 ·subst h
  have HP := Lib.hid (plain_any 32 w)
  rw [show flatP 10 = plainF 32 from rfl]
  generalize plainF 32 = q at *
  obtain ⟨q1, q2⟩ := q
  go_enter Tryz.func83, Tryz.ntmps83
  go_wp2_with (go_at_call 84; refine HP.out.mono ?_; rintro e w' ⟨rfl, rfl⟩)
  go_ret2
  exact ⟨rfl, rfl⟩
 ·have HP := Lib.hid (plain_any c w)
  rw [show flatP c = plainF c by unfold flatP; rw [if_neg h]]
  have b10 : (c == 10) = false := by simpa using h
  clear h
  generalize plainF c = q at *
  obtain ⟨q1, q2⟩ := q
  go_enter Tryz.func83, Tryz.ntmps83
  go_wp2_with (go_at_call 84; refine HP.out.mono ?_; rintro e w' ⟨rfl, rfl⟩)
  go_ret2
  exact ⟨rfl, rfl⟩
theorem flat_any (s : ByteArray) (w : World) (hs : s.size ≤ 10000000) :
  Calls Tryz.prog 52 #[.string s] w fun e w' => ∃ v, e = .returned v ∧ RunesR true w' (fun b => w.heap.size ≤ b) v (flatR (runesB s)) ∧ Below w.heap.size w w' := by
 have HE := Lib.hid (each_any s 83 flatP (enters_of Tryz.func83 (by kernel_rfl) rfl) flat1_any w hs)
 have e : (fun c => if (flatP c).2 = true then some (flatP c).1 else none) = flatC := funext flat_flat
 rw [e] at HE
 clear e
 go_enter Tryz.func52, Tryz.ntmps52
 go_wp2_with (go_at_call 82; refine HE.out.mono ?_; rintro e w2 ⟨v, rfl, hv, hb⟩)
 go_ret
 exact ⟨_, rfl, hv, hb⟩
theorem enc_size (l : List Int) : (runesBytes l).size ≤ 4 * l.length := by
 have h := runesBytes_eq l
 have h2 : (runesBytes l).size = (l.flatMap Lib.encodeRune).length := by
  rw [← h]
  simp
 rw [h2]
 clear h h2
 induction l with
 | nil => simp
 | cons c l ih =>
  have : (Lib.encodeRune c).length ≤ 4 := by
   unfold Lib.encodeRune
   rw [List.length_map]
   exact (Lib.encodeRuneZ_length c).2
  rw [List.flatMap_cons, List.length_append, List.length_cons]
  omega
theorem back_runes {l : List Int} (h : ∀ c ∈ l, Lib.validRune c = true) : runesB (runesBytes l) = l := by
 have e : runesBytes l = ⟨(l.flatMap Lib.encodeRune).toArray⟩ := by
  have := runesBytes_eq l
  cases hb : runesBytes l with
  | mk d =>
   rw [hb] at this
   show (⟨d⟩ : ByteArray) = _
   congr 1
   rw [← this]
 rw [e]
 exact runesB_of l h
theorem runes_row (s : ByteArray) (w : World) (hs : s.size ≤ 10000000) : ∃ a c w1, (convert 9 90 (.string s)).run Tryz.prog w = .ok (.slice a (runesB s).length c) w1 ∧ RunesR false w1 (fun _ => True) (.slice a (runesB s).length c) (runesB s) ∧ Below w.heap.size w w1 := by
 have hz := size_runesFrom s s.size 0 #[]
 have hr := run_runes_of_string w 9 90 21 s Tryz.underlying9 Tryz.underlying90 Tryz.underlying21 (by simp at hz; omega)
 have hge := grownCap_ge w (Conv.runesFrom s s.size 0 #[]).size 0 21
 have hle := grownCap_le_maxLen w (Conv.runesFrom s s.size 0 #[]).size 0 21 (by unfold maxLen; simp at hz; omega)
 have he : Conv.runesFrom s s.size 0 #[] = ((runesB s).map (Value.int .i32)).toArray := by rw [runesFrom_eq]; simp [runesB]
 rw [he] at hr hge hle
 generalize hG : grownCap w (((runesB s).map (Value.int .i32)).toArray).size 0 21 = G at *
 simp only [List.size_toArray, List.length_map] at hr hge hle
 clear hz he hG
 refine ⟨_, _, _, hr, ⟨_, G, rfl, hge, hle, .inr ⟨w.heap.size, 0, rfl, trivial, by simp, (fun h => by cases h), fun i x hx => ⟨_, rfl, rfl, fun j u hu => ?_⟩⟩⟩, by (repeat' (first | (with_reducible exact Below.refl _ _) | (with_reducible assumption) | (with_reducible refine Below.alloc ?_ ?_ _) | (with_reducible refine Below.drew ?_) | (with_reducible refine drewN_below ?_) | (with_reducible refine Below.setCell ?_ ?_ _) | go_size))⟩
 have hi := (List.getElem?_eq_some_iff.1 hx).1
 have hj : j = 0 := by
  have := (List.getElem?_eq_some_iff.1 hu).1
  simp [encRune] at this
  omega
 subst hj
 cases hu
 show (w.drew.alloc _).cell? ⟨w.drew.heap.size, _, none⟩ = _
 rw [cell_of_heap (heap_new _ _ rfl)]
 rw [Array.getElem?_append_left (by simp; omega)]
 simp [hx]
set_option maxRecDepth 100000 in
set_option maxHeartbeats 2000000 in
theorem partChars_any (s : ByteArray) (k : Nat) (w : World) (hs : s.size ≤ 10000000) :
  Calls Tryz.prog 121 #[.string s, .int .i64 0, .int .i64 k] w fun e w' => ∃ t, e = .returned (.string t) ∧ runesB t = (runesB s).take k ∧ t.size ≤ 4 * s.size ∧ Below w.heap.size w w' := by
 have hln := runesB_length s
 have HV : Hid (∀ c ∈ runesB s, Lib.validRune c = true) := Lib.hid (runesGo_valid s _ _)
 obtain ⟨ra, rc, W1, hr, hR, hb⟩ := runes_row s w hs
 generalize runesB s = d at *
 obtain ⟨hdc, hcm⟩ := (SliceR.len hR).2
 unfold maxLen at hcm
 obtain ⟨ss, hss⟩ : ∃ n, s.size = n := ⟨_, rfl⟩
 rw [hss] at hs hln ⊢
 obtain ⟨m, hm⟩ : ∃ m, min k d.length = m := ⟨_, rfl⟩
 have e0 : min (0 : Int) (d.length : Int) = 0 := by omega
 have em : min (k : Int) (d.length : Int) = (m : Int) := by omega
 have hml : m ≤ d.length := by omega
 have HT : Hid (d.take k = d.take m) := Lib.hid (by rw [← hm]; simp [List.take_eq_take_iff])
 have HP := Lib.hid (string_runes (SliceR.pre hR hml))
 have HS := Lib.hid (enc_size (d.take m))
 have HL : Hid ((d.take m).length ≤ ss) := Lib.hid (by rw [List.length_take]; omega)
 have HB := Lib.hid hb
 have HBk := Lib.hid (back_runes (l := d.take m) fun c hc => HV.out c (List.mem_of_mem_take hc))
 clear hss hR hb
 by_cases h0 : m = 0
 ·have hd0 : decide ((m : Int) ≤ 0) = true := decide_eq_true (by omega)
  clear hm
  go_enter Tryz.func121, Tryz.ntmps121
  go_wp2_with fail
  go_ret
  exact ⟨⟨#[]⟩, rfl, by rw [HT.out, h0]; rfl, Nat.zero_le _, HB.out⟩
 ·have hd0 : decide ((m : Int) ≤ 0) = false := decide_eq_false (by omega)
  have hm0 : 0 < m := by omega
  have hcv := HP.out
  clear hm h0
  go_enter Tryz.func121, Tryz.ntmps121
  go_wp2_with fail
  go_ret
  exact ⟨_, rfl, by rw [HT.out]; exact HBk.out, by have := HS.out; have := HL.out; omega, HB.out⟩
theorem headT_any (t : Int) (w : World) : Calls Tryz.prog 101 #[.int .i64 t] w fun e w' => e = .returned (.int .i64 (headT t)) ∧ Below w.heap.size w w' := by
 unfold headT
 by_cases h : 3 ≤ t ∧ t ≤ 5
 ·rw [if_pos h]
  have : t = 3 ∨ t = 4 ∨ t = 5 := by omega
  rcases this with rfl | rfl | rfl
  all_goals
   go_enter Tryz.func101, Tryz.ntmps101
   go_wp2_with fail
   go_ret
   exact ⟨rfl, Below.refl _ _⟩
 ·rw [if_neg h]
  rcases (show t < 3 ∨ (3 ≤ t ∧ 5 < t) by omega) with h | ⟨h1, h2⟩
  all_goals
   go_enter Tryz.func101, Tryz.ntmps101
   go_wp2_with fail
   go_ret
   exact ⟨rfl, Below.refl _ _⟩
set_option maxRecDepth 100000 in
set_option maxHeartbeats 2000000 in
theorem aside_any (n : Nod) (a k : Value) (w w0 : World) (S : Nat → Prop) (h : Nat) (hA : AttsR false w0 S a n.attrs) (hK : NodsR false h w0 S k n.kids) :
  Calls Tryz.prog 46 #[nodV n a k] w fun e w' => e = .returned (.bool (asideT n.tag)) ∧ Below w.heap.size w w' := by
 obtain ⟨la, lc, rfl⟩ := hA.slice
 obtain ⟨ka, kc, rfl⟩ := hK.slice
 obtain ⟨W1, hW1⟩ : ∃ W1, w.alloc (.cells #[.int .i64 n.tag, .slice la n.attrs.length lc, .string ⟨n.text.toArray⟩, .slice ka n.kids.length kc] 25) = W1 := ⟨_, rfl⟩
 have hB : Below w.heap.size w W1 := hW1 ▸ (Below.refl _ _).alloc (Nat.le_refl _) _
 have hB1 : W1.heap[w.heap.size]? = some (.cells #[.int .i64 n.tag, .slice la n.attrs.length lc, .string ⟨n.text.toArray⟩, .slice ka n.kids.length kc] 25) := hW1 ▸ heap_new _ _ rfl
 have HC := Lib.hid (tagsClass_any n.tag W1)
 have HB := Lib.hid hB
 have HAs : Hid (asideT n.tag = (decide (tagC n.tag = 1) || decide (tagC n.tag = 5))) := Lib.hid rfl
 obtain ⟨p1, f1⟩ := blk hB1
 generalize tagC n.tag = c at *
 clear hA hK hB hB1
 unfold nodV
 by_cases h1 : c = 1
 ·have b1 : (c == 1) = true := by simpa using h1
  have e : asideT n.tag = true := by rw [HAs.out, h1]; rfl
  clear h1
  go_enter Tryz.func46, Tryz.ntmps46
  go_wp2_with (go_at_call 17; refine HC.out.mono ?_; rintro e w2 ⟨rfl, hb2⟩)
  go_ret
  exact ⟨by rw [e]; rfl, below_from HB.out hb2⟩
 ·have b1 : (c == 1) = false := by simpa using h1
  obtain ⟨b, hb⟩ : ∃ b, (c == 5) = b := ⟨_, rfl⟩
  have e : asideT n.tag = b := by
   rw [HAs.out, decide_eq_false h1, Bool.false_or, ← hb]
   by_cases h5 : c = 5 <;> simp [h5]
  have HE := Lib.hid e
  clear h1 e
  go_enter Tryz.func46, Tryz.ntmps46
  go_wp2_with (go_at_call 17; refine HC.out.mono ?_; rintro e w2 ⟨rfl, hb2⟩)
  go_ret
  exact ⟨by rw [HE.out]; rfl, below_from HB.out hb2⟩
end Go.Proofs.YtjpgffihafknlaaGreatDoor
namespace Go.Proofs.Qw
open Go.RowKit
theorem SliceR.typed {α : Type} {t : TypeId} {k : Nat} {R : Rd α} {w : World} {S : Nat → Prop} {v : Value} {xs : List α} (h : SliceR t k R true w S v xs) (hx : xs ≠ []) : ∀ b, v.ownBlock = some b → S b ∧ ∃ cs, w.heap[b]? = some (.cells cs t) := by
 obtain ⟨a, c, rfl, _, _, h | ⟨b, o, rfl, hb, hz, hf, he⟩⟩ := h
 ·exact absurd h.1 hx
 ·intro d hd
  cases hd
  obtain ⟨cs, f1, _⟩ := hf rfl
  exact ⟨hb, cs, f1⟩
theorem SliceR.own {α : Type} {t : TypeId} {k : Nat} {enc : α → List Value} {own : Bool} {w : World} {S : Nat → Prop} {v : Value} {xs : List α} (h : SliceR t k (rdOf enc) own w S v xs) : SliceR t k (rdOf enc) own w (fun b => S b ∧ v.ownBlock = some b) v xs := by
 obtain ⟨a, c, rfl, h2, h3, h | ⟨b, o, rfl, hb, hz, hf, he⟩⟩ := h
 ·exact ⟨a, c, rfl, h2, h3, .inl h⟩
 ·exact ⟨_, c, rfl, h2, h3, .inr ⟨b, o, rfl, ⟨hb, rfl⟩, hz, hf, he⟩⟩
theorem SliceR.grown {α : Type} {t s : TypeId} {k : Nat} {enc : α → List Value} {w w' : World} {S : Nat → Prop} {v : Value} {xs : List α} {row : Option Nat} (hst : s ≠ t) (h : SliceR s k (rdOf enc) true w S v xs) (hg : w.grownBy w' row) (hr : ∀ d, row = some d → ∃ cs, w.heap[d]? = some (.cells cs t)) : SliceR s k (rdOf enc) true w' S v xs :=
 SliceR.tagged (tagged_of _ _) hst h hg.size (fun b _ hz hn => hg.block b hz (fun e => by
  obtain ⟨cs, he⟩ := hr b e.symm
  exact hn cs he)) (fun _ h _ => h)
theorem SliceR.putT {α : Type} {t s : TypeId} {k : Nat} {enc : α → List Value} {w : World} {S : Nat → Prop} {v : Value} {xs : List α} (hst : s ≠ t) (h : SliceR s k (rdOf enc) true w S v xs) {b o : Nat} {cs : Array Value} {u : Value} (hb : w.heap[b]? = some (.cells cs t)) : SliceR s k (rdOf enc) true (w.setCell ⟨b, o, none⟩ u) S v xs :=
 SliceR.tagged (tagged_of _ _) hst h (by simp) (fun b' _ hz hn => Below.heap_setCell _ _ _ _ (fun e => hn cs (e ▸ hb))) (fun _ h _ => h)
end Go.Proofs.Qw
namespace Go.Proofs.YtjpgffihafknlaaGreatDoor
open Go.RowKit
open Go.Proofs.Qw
def rdLn : Rd (Lin × Option Nat) := fun w S vs x => ∃ a c, vs = [.int .i64 x.1.quote, a, .int .i64 x.1.kind, c] ∧ IntsR true w S a x.1.lists ∧ CelsR true w S c x.1.cells ∧ c.ownBlock = x.2 ∧ ∀ b, x.2 = some b → S b ∧ ∃ cs, w.heap[b]? = some (.cells cs 66)
theorem lt_of_heap {w : World} {b : Nat} {o : Obj} (h : w.heap[b]? = some o) : b < w.heap.size := (Array.getElem?_eq_some_iff.1 h).1
theorem rdLn_stable : Stable rdLn := ⟨fun w w' S S' vs x ⟨a, c, h1, h2, h3, h4, h5⟩ hk hS => ⟨a, c, h1, h2.stable (rdOf_stable _) hk hS, h3.stable (rdOf_stable _) hk hS, h4, fun b hb => by
 obtain ⟨g1, cs, g2⟩ := h5 b hb
 exact ⟨hS b g1 (lt_of_heap g2), cs, (hk.block b g1 (lt_of_heap g2)).trans g2⟩⟩⟩
theorem rdLn_tagged {t : TypeId} (h1 : 3 ≠ t) (h2 : 66 ≠ t) : Tagged t rdLn := ⟨fun w w' S S' vs x ⟨a, c, g1, g2, g3, g4, g5⟩ hz hk hS =>
 ⟨a, c, g1, SliceR.tagged (tagged_of _ _) h1 g2 hz hk hS, SliceR.tagged (tagged_of _ _) h2 g3 hz hk hS, g4, fun b hb => by
  obtain ⟨k1, cs, k2⟩ := g5 b hb
  exact ⟨hS b k1 (lt_of_heap k2), cs, (hk b k1 (lt_of_heap k2) (fun cs' e => by rw [k2] at e; cases e; exact h2 rfl)).trans k2⟩⟩⟩
theorem eltLn : Elt 37 4 rdLn :=
 ⟨by decide, fun _ _ _ _ ⟨_, _, h, _⟩ => by rw [h]; rfl, fun _ _ _ _ ⟨a, c, h, h2, h3, _⟩ u hu => by
  obtain ⟨_, _, rfl⟩ := h2.slice
  obtain ⟨_, _, rfl⟩ := h3.slice
  subst h
  simp at hu
  rcases hu with rfl | rfl | rfl | rfl <;> rfl, rdLn_tagged (by decide) (by decide), rdLn_stable⟩
structure LnsR (n : Nat) (w : World) (v : Value) (xs : List (Lin × Option Nat)) : Prop where
 row : SliceR 37 4 rdLn true w (fun b => n ≤ b) v xs
 apart : xs.Pairwise fun x y => ∀ b, y.2 = some b → x.2 ≠ some b
 blk : ∀ b, v.ownBlock = some b → n ≤ b ∧ ∃ cs, w.heap[b]? = some (.cells cs 37)
theorem LnsR.nil (n : Nat) (w : World) : LnsR n w (.slice none 0 0) [] := ⟨SliceR.nil _ _ _ _ _ _, .nil, fun _ h => by cases h⟩
theorem LnsR.stable {n : Nat} {w w' : World} {v : Value} {xs : List (Lin × Option Nat)} (h : LnsR n w v xs) (hk : Keeps (fun b => n ≤ b) w w') : LnsR n w' v xs :=
 ⟨h.row.stable rdLn_stable hk (fun _ h _ => h), h.apart, fun b hb => by
  obtain ⟨h1, cs, h2⟩ := h.blk b hb
  exact ⟨h1, cs, (hk.block b h1 (lt_of_heap h2)).trans h2⟩⟩
theorem LnsR.below {n : Nat} {w w' : World} {v : Value} {xs : List (Lin × Option Nat)} (h : LnsR n w v xs) (hb : Below w.heap.size w w') : LnsR n w' v xs := h.stable (.all hb)
theorem LnsR.app {n : Nat} {w w' : World} {v v' : Value} {xs : List (Lin × Option Nat)} {l : Lin} (h : LnsR n w v xs) (hr : SliceR 37 4 rdLn true w' (fun b => n ≤ b) v' (xs ++ [(l, none)])) : LnsR n w' v' (xs ++ [(l, none)]) :=
 ⟨hr, List.pairwise_append.2 ⟨h.apart, .cons (by simp) .nil, fun _ _ y hy b hb => by simp at hy; subst hy; cases hb⟩, hr.typed (by simp)⟩
theorem LnsR.last {n : Nat} {w : World} {v : Value} {xs : List (Lin × Option Nat)} {z : Lin × Option Nat} (h : LnsR n w v (xs ++ [z])) :
  ∃ b o c ca cc, v = .slice (some ⟨b, o, none⟩) (xs.length + 1) c ∧ xs.length + 1 ≤ c ∧ c ≤ maxLen ∧ n ≤ b ∧ b < w.heap.size ∧ (∃ cs, w.heap[b]? = some (.cells cs 37) ∧ o + c * 4 ≤ cs.size) ∧
   w.cell? ⟨b, o + xs.length * 4 + 3, none⟩ = some (.slice ca z.1.cells.length cc) ∧ CelsR true w (fun b => n ≤ b) (.slice ca z.1.cells.length cc) z.1.cells ∧ (Value.slice ca z.1.cells.length cc).ownBlock = z.2 ∧ ∀ b, z.2 = some b → n ≤ b ∧ ∃ cs, w.heap[b]? = some (.cells cs 66) := by
 obtain ⟨a, c, e, h2, h3, ⟨h0, _⟩ | ⟨b, o, rfl, hb, hz, hf, he⟩⟩ := h.row
 ·exact absurd h0 (by simp)
 obtain ⟨cs, f1, f2⟩ := hf rfl
 obtain ⟨vs, g1, ⟨la, cv, g2, g3, g4, g5, g6⟩, g7⟩ := he xs.length z (by simp)
 obtain ⟨ca, cc, rfl⟩ := g4.slice
 subst g2
 refine ⟨b, o, c, ca, cc, by rw [e]; simp, by simpa using h2, h3, hb, hz, ⟨cs, f1, f2⟩, g7 3 _ rfl, g4, g5, g6⟩
theorem LnsR.put {n : Nat} {w w1 : World} {b o c : Nat} {xs : List (Lin × Option Nat)} {z : Lin × Option Nat} {cv v' : Value} {l : List Cel} (h : LnsR n w (.slice (some ⟨b, o, none⟩) (xs.length + 1) c) (xs ++ [z])) (hz : cv.ownBlock = z.2) (hg : w.grownBy w1 cv.ownBlock) (hv : CelsR true w1 (fun b => n ≤ b) v' l) (hl : l ≠ []) (hob : v'.ownBlock = cv.ownBlock ∨ v'.ownBlock = some w.heap.size) :
  LnsR n (w1.setCell ⟨b, o + xs.length * 4 + 3, none⟩ v') (.slice (some ⟨b, o, none⟩) (xs.length + 1) c) (xs ++ [({ z.1 with cells := l }, v'.ownBlock)]) := by
 obtain ⟨a', c', e, h2, h3, hx⟩ := h.row
 simp only [List.length_append, List.length_singleton] at e h2
 cases e
 rcases hx with ⟨h0, _⟩ | ⟨b', o', e, hb, hbz, hf, he⟩
 ·exact absurd h0 (by simp)
 cases e
 obtain ⟨cs, f1, f2⟩ := hf rfl
 have hzB : ∀ d, cv.ownBlock = some d → n ≤ d ∧ ∃ cs, w.heap[d]? = some (.cells cs 66) := fun d hd => by
  obtain ⟨vs, g1, ⟨la, cv, g2, g3, g4, g5, g6⟩, g7⟩ := he xs.length z (by simp)
  exact g6 d (hz.symm.trans hd)
 have hrow : ∀ d, cv.ownBlock = some d → ∃ cs, w.heap[d]? = some (.cells cs 66) := fun d hd => (hzB d hd).2
 have hb1 : w1.heap[b]? = some (.cells cs 37) := (hg.block b hbz (fun e => by
  obtain ⟨cs', he'⟩ := hrow b e.symm
  rw [f1] at he'
  cases he')).trans f1
 have hvB : ∀ d, v'.ownBlock = some d → n ≤ d ∧ ∃ cs, w1.heap[d]? = some (.cells cs 66) := fun d hd => by
  obtain ⟨a, c, e, _, _, ⟨h0, _⟩ | ⟨b2, o2, rfl, k1, k2, k3, _⟩⟩ := hv
  ·exact absurd h0 hl
  ·subst e
   cases hd
   obtain ⟨cs, k3, _⟩ := k3 rfl
   exact ⟨k1, cs, k3⟩
 have hset : ∀ d, d ≠ b → (w1.setCell ⟨b, o + xs.length * 4 + 3, none⟩ v').heap[d]? = w1.heap[d]? := fun d hd => Below.heap_setCell _ _ _ _ hd
 have hcell : ∀ k, k ≠ o + xs.length * 4 + 3 → (w1.setCell ⟨b, o + xs.length * 4 + 3, none⟩ v').cell? ⟨b, k, none⟩ = w.cell? ⟨b, k, none⟩ := fun k hk => by
  rw [setCell_off (Ne.symm hk)]
  exact World.cell?_of_block (hb1.trans f1.symm)
 refine ⟨⟨_, c, by simp, by simpa using h2, h3, .inr ⟨b, o, rfl, hb, by simp; exact Nat.lt_of_lt_of_le hbz hg.size, fun _ => ⟨_, setCell_heap hb1 v', by simpa using f2⟩, fun i x hi => ?_⟩⟩, ?_, fun d hd => by cases hd; exact ⟨hb, _, setCell_heap hb1 v'⟩⟩
 ·by_cases hil : i < xs.length
  ·rw [List.getElem?_append_left hil] at hi
   obtain ⟨vs, g1, ⟨la, ca, g2, g3, g4, g5, g6⟩, g7⟩ := he i x (by rw [List.getElem?_append_left hil]; exact hi)
   have hap : ∀ d, x.2 = some d → some d ≠ cv.ownBlock := fun d hd e => by
    have := (List.pairwise_append.1 h.apart).2.2 x (List.mem_of_getElem? hi) z (by simp) d (hz.symm.trans e.symm)
    exact this hd
   refine ⟨vs, g1, ⟨la, ca, g2, (g3.grown (t := 66) (by decide) hg hrow).putT (by decide) hb1, ?_, g5, fun d hd => ?_⟩, fun j u hu => ?_⟩
   ·have k1 : CelsR true w1 (fun b => n ≤ b ∧ ca.ownBlock = some b) ca x.1.cells := (SliceR.own g4).stable (rdOf_stable _) ⟨hg.size, fun d hd hz' => hg.block d hz' (hap d (g5.symm.trans hd.2))⟩ (fun _ h _ => h)
    exact (k1.stable (rdOf_stable _) (Keeps.refl _ _) (fun _ h _ => h.1)).putT (by decide) hb1
   ·obtain ⟨k1, cs2, k2⟩ := g6 d hd
    refine ⟨k1, cs2, ?_⟩
    rw [hset d (fun e => by subst e; rw [f1] at k2; cases k2)]
    exact (hg.block d (lt_of_heap k2) (hap d hd)).trans k2
   ·rw [hcell _ (by have := (List.getElem?_eq_some_iff.1 hu).1; omega)]
    exact g7 j u hu
  ·have hil2 := (List.getElem?_eq_some_iff.1 hi).1
   simp only [List.length_append, List.length_singleton] at hil2
   obtain rfl : i = xs.length := by omega
   rw [List.getElem?_append_right (Nat.le_refl _), Nat.sub_self] at hi
   cases hi
   obtain ⟨vs, g1, ⟨la, ca, g2, g3, g4, g5, g6⟩, g7⟩ := he xs.length z (by simp)
   subst g2
   refine ⟨[.int .i64 z.1.quote, la, .int .i64 z.1.kind, v'], rfl, ⟨la, v', rfl, (g3.grown (t := 66) (by decide) hg hrow).putT (by decide) hb1, hv.putT (by decide) hb1, rfl, fun d hd => ?_⟩, fun j u hu => ?_⟩
   ·obtain ⟨k1, cs2, k2⟩ := hvB d hd
    refine ⟨k1, cs2, ?_⟩
    rw [hset d (fun e => by subst e; rw [hb1] at k2; cases k2)]
    exact k2
   ·by_cases hj : j = 3
    ·subst hj
     cases hu
     have hlt : o + xs.length * 4 + 3 < cs.size := by omega
     rw [cell_of_heap (setCell_heap hb1 v'), Array.getElem?_setIfInBounds]
     simp [hlt]
    ·have hjl := (List.getElem?_eq_some_iff.1 hu).1
     rw [hcell _ (by omega)]
     refine g7 j u ?_
     match j, hj, hjl, hu with
     | 0, _, _, hu => exact hu
     | 1, _, _, hu => exact hu
     | 2, _, _, hu => exact hu
     | 3, hj, _, _ => exact absurd rfl hj
     | j + 4, _, hjl, _ => exact absurd hjl (by simp only [List.length_cons, List.length_nil]; omega)
 ·refine List.pairwise_append.2 ⟨(List.pairwise_append.1 h.apart).1, .cons (by simp) .nil, fun x hx y hy d hd => ?_⟩
  simp at hy
  subst hy
  rcases hob with e | e
  ·exact (List.pairwise_append.1 h.apart).2.2 x hx z (by simp) d (hz.symm.trans (e.symm.trans hd))
  ·rw [e] at hd
   cases hd
   obtain ⟨i, hi⟩ := List.getElem?_of_mem hx
   have hil := (List.getElem?_eq_some_iff.1 hi).1
   obtain ⟨vs, g1, ⟨la, ca, g2, g3, g4, g5, g6⟩, g7⟩ := he i x (by rw [List.getElem?_append_left hil]; exact hi)
   intro e2
   obtain ⟨_, cs2, k2⟩ := g6 _ e2
   exact absurd (lt_of_heap k2) (Nat.lt_irrefl _)
theorem LnsR.doc {n : Nat} {w : World} {v : Value} {xs : List (Lin × Option Nat)} (h : LnsR n w v xs) : DocR true w (fun b => n ≤ b) v (xs.map (·.1)) := by
 obtain ⟨a, c, h1, h2, h3, h | ⟨b, o, rfl, hb, hz, hf, he⟩⟩ := h.row
 ·exact ⟨a, c, by rw [List.length_map]; exact h1, by rw [List.length_map]; exact h2, h3, .inl ⟨by rw [h.1]; rfl, h.2⟩⟩
 ·refine ⟨_, c, by rw [List.length_map]; exact h1, by rw [List.length_map]; exact h2, h3, .inr ⟨b, o, rfl, hb, hz, hf, fun i x hx => ?_⟩⟩
  rw [List.getElem?_map] at hx
  cases hy : xs[i]? with
  | none => rw [hy] at hx; cases hx
  | some y =>
   rw [hy] at hx
   cases hx
   obtain ⟨vs, g1, ⟨la, ca, g2, g3, g4, _, _⟩, g7⟩ := he i y hy
   exact ⟨vs, g1, ⟨la, ca, g2, g3, g4⟩, g7⟩
structure KeepT (B : Nat) (w w' : World) : Prop where
 os : w'.os = w.os
 tape : w'.tape = w.tape
 output : w'.output = w.output
 size : w.heap.size ≤ w'.heap.size
 block : ∀ b o, w.heap[b]? = some o → b ≠ B → (b < B ∨ ∀ cs f, o ≠ .cells cs 37 f ∧ o ≠ .cells cs 66 f) → w'.heap[b]? = some o
theorem KeepT.refl (B : Nat) (w : World) : KeepT B w w := ⟨rfl, rfl, rfl, Nat.le_refl _, fun _ _ h _ _ => h⟩
theorem KeepT.trans {B : Nat} {a b c : World} (h : KeepT B a b) (k : KeepT B b c) : KeepT B a c := ⟨k.os.trans h.os, k.tape.trans h.tape, k.output.trans h.output, Nat.le_trans h.size k.size, fun i o hi h1 h2 => k.block i o (h.block i o hi h1 h2) h1 h2⟩
theorem KeepT.of {B : Nat} {w w' : World} (h : Below w.heap.size w w') : KeepT B w w' := ⟨h.os, h.tape, h.output, h.size, fun i o hi _ _ => (h.block i (lt_of_heap hi)).trans hi⟩
theorem KeepT.below {B : Nat} {w w' : World} (h : KeepT B w w') (hB : B < w.heap.size) : Below B w w' := ⟨h.os, h.tape, h.output, h.size, fun k hk => by
 have hz : k < w.heap.size := Nat.lt_trans hk hB
 rw [h.block k w.heap[k] (Array.getElem?_eq_getElem hz) (by omega) (.inl hk), Array.getElem?_eq_getElem hz]⟩
theorem KeepT.set {B : Nat} (w : World) (o : Nat) (v : Value) : KeepT B w (w.setCell ⟨B, o, none⟩ v) := have h := (Below.refl B w).setCell (p := ⟨B, o, none⟩) (Nat.le_refl _) v; ⟨h.os, h.tape, h.output, h.size, fun b x hx hb _ => (Below.heap_setCell _ _ _ _ hb).trans hx⟩
theorem KeepT.grown {B : Nat} {w w' : World} {row : Option Nat} {t : TypeId} (ht : t = 37 ∨ t = 66) (hg : w.grownBy w' row) (hr : ∀ d, row = some d → B < d ∧ ∃ cs, w.heap[d]? = some (.cells cs t)) : KeepT B w w' :=
 ⟨hg.os, hg.tape, hg.output, hg.size, fun b o hb hne hk => (hg.block b (lt_of_heap hb) (fun e => by
  obtain ⟨h1, cs, h2⟩ := hr b e.symm
  rcases hk with h | h
  ·omega
  ·rw [h2] at hb
   cases hb
   rcases ht with rfl | rfl
   ·exact (h cs _).1 rfl
   ·exact (h cs _).2 rfl)).trans hb⟩
theorem KeepT.line {B : Nat} (w : World) {b : Nat} {cs : Array Value} (hb : w.heap[b]? = some (.cells cs 37)) (hB : B < b) (o : Nat) (v : Value) : KeepT B w (w.setCell ⟨b, o, none⟩ v) :=
 have h := (Below.refl b w).setCell (p := ⟨b, o, none⟩) (Nat.le_refl _) v
 ⟨h.os, h.tape, h.output, h.size, fun b' x hx _ hk => (Below.heap_setCell _ _ _ _ (fun e => by
  subst e
  rcases hk with h | h
  ·omega
  ·rw [hb] at hx
   cases hx
   exact (h cs _).1 rfl)).trans hx⟩
theorem KeepT.heap {B b : Nat} {w w' : World} {cs : Array Value} {t : TypeId} (h : KeepT B w w') (e : w.heap[b]? = some (.cells cs t)) (hb : b ≠ B) (h1 : t ≠ 37) (h2 : t ≠ 66) : w'.heap[b]? = some (.cells cs t) :=
 h.block b _ e hb (.inr fun cs f => ⟨fun e => by cases e; exact h1 rfl, fun e => by cases e; exact h2 rfl⟩)
theorem KeepT.row {B : Nat} {w w' : World} (h : KeepT B w w') {α : Type} {t : TypeId} {k : Nat} {enc : α → List Value} {v : Value} {xs : List α} (h1 : t ≠ 37) (h2 : t ≠ 66) (hv : SliceR t k (rdOf enc) true w (fun b => B < b) v xs) : SliceR t k (rdOf enc) true w' (fun b => B < b) v xs := by
 obtain ⟨a, c, e, g2, g3, g | ⟨b, o, rfl, hb, hz, hf, he⟩⟩ := hv
 ·exact ⟨a, c, e, g2, g3, .inl g⟩
 ·obtain ⟨cs, f1, f2⟩ := hf rfl
  have f1' := h.heap f1 (by omega) h1 h2
  exact ⟨_, c, e, g2, g3, .inr ⟨b, o, rfl, hb, Nat.lt_of_lt_of_le hz h.size, fun _ => ⟨cs, f1', f2⟩, fun i x hx => by
   obtain ⟨vs, k1, k2, k3⟩ := he i x hx
   exact ⟨vs, k1, k2, fun j u hu => by rw [World.cell?_of_block (w := w) (f1'.trans f1.symm)]; exact k3 j u hu⟩⟩⟩
def walkC (a : Aro) (lv : Value) (s : VSt) (lns : Value) : Array Value := #[.int .i64 a.quote, lv, .int .i64 a.kind, .slice none 0 0, .int .i64 a.bits, .string ⟨a.href.toArray⟩, lns, .int .i64 s.cells, .bool s.opn, .int .i64 s.spot, .int .i64 s.pos.line, .int .i64 s.pos.col]
def VwR (B : Nat) (w : World) (a : Aro) (lv : Value) (s : VSt) : Prop := ∃ lns xs, w.heap[B]? = some (.cells (walkC a lv s lns) 74) ∧ IntsR true w (fun b => B < b) lv a.lists ∧ LnsR (B + 1) w lns xs ∧ xs.map (·.1) = s.lines
theorem VwR.below {B : Nat} {w w' : World} {a : Aro} {lv : Value} {s : VSt} (h : VwR B w a lv s) (hb : Below w.heap.size w w') : VwR B w' a lv s := by
 obtain ⟨lns, xs, h1, h2, h3, h4⟩ := h
 exact ⟨lns, xs, heap_below hb h1, h2.below (rdOf_stable _) hb, h3.below hb, h4⟩
theorem VwR.lt {B : Nat} {w : World} {a : Aro} {lv : Value} {s : VSt} (h : VwR B w a lv s) : B < w.heap.size := by
 obtain ⟨lns, xs, h1, _⟩ := h
 exact lt_of_heap h1
theorem VwR.turn {B : Nat} {w : World} {a' : Aro} {lv' : Value} {s' : VSt} {lns : Value} {xs : List (Lin × Option Nat)} (h3 : LnsR (B + 1) w lns xs) {w' : World} (hw : ∀ b, b ≠ B → w'.heap[b]? = w.heap[b]?) (hz : w.heap.size ≤ w'.heap.size) (h1 : w'.heap[B]? = some (.cells (walkC a' lv' s' lns) 74)) (h2 : IntsR true w (fun b => B < b) lv' a'.lists) (h4 : xs.map (·.1) = s'.lines) : VwR B w' a' lv' s' :=
 ⟨lns, xs, h1, h2.stable (rdOf_stable _) ⟨hz, fun b hb _ => hw b (by omega)⟩ (fun _ h _ => h), h3.stable ⟨hz, fun b hb _ => hw b (by omega)⟩, h4⟩
end Go.Proofs.YtjpgffihafknlaaGreatDoor
