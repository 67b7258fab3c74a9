/- The walk of law19's awake. -/
import Derived.Test.YteognfhemmogpaaDoorRenExR
import Derived.Test.YteognfhemmogpaaDoorOpenMoreR
set_option linter.unusedVariables false
set_option linter.unusedSimpArgs false
namespace Go.Proofs.Qw
open Go.RowKit Go.Proofs.YteognfhemmogpaaDoor
theorem slice_blkR {α : Type} {t : TypeId} {k : Nat} {enc : α → List Value} (hk : ∀ x, (enc x).length = k) {w : World} {S : Nat → Prop} {b : Nat} (xs : List α) (h : w.heap[b]? = some (.cells (xs.map enc).flatten.toArray t)) (hS : S b) (hm : xs.length ≤ maxLen) :
  SliceR t k (rdOf enc) false w S (.slice (some ⟨b, 0, none⟩) xs.length xs.length) xs := by
 refine ⟨_, xs.length, rfl, Nat.le_refl _, hm, .inr ⟨b, 0, rfl, hS, (Array.getElem?_eq_some_iff.1 h).1, (fun e => by cases e), fun i x hx => ⟨enc x, hk x, rfl, fun j u hu => ?_⟩⟩⟩
 rw [cell_of_heap h, Nat.zero_add, List.getElem?_toArray]
 exact flatten_at (xs.map enc) i (enc x) j u (by simp; intro a _; exact hk a) (by rw [List.getElem?_map, hx]; rfl) hu
theorem doc_twoR {W : World} {S : Nat → Prop} {l m : Lin} {a b c e : Value} {g : Nat} (hg : W.heap[g]? = some (.cells #[.int .i64 l.quote, a, .int .i64 l.kind, b, .int .i64 m.quote, c, .int .i64 m.kind, e] 26)) (hI : IntsR false W S a l.lists) (hC : CelsR false W S b l.cells)
  (hI2 : IntsR false W S c m.lists) (hC2 : CelsR false W S e m.cells) (hS : S g) : LinsR W S (.slice (some ⟨g, 0, none⟩) 2 2) [l, m] := by
 refine ⟨_, 2, rfl, by simp, by decide, .inr ⟨g, 0, rfl, hS, (Array.getElem?_eq_some_iff.1 hg).1, (fun e => by cases e), fun i x hx => ?_⟩⟩
 match i, hx with
 | 0, hx =>
  cases hx
  refine ⟨_, rfl, ⟨a, b, rfl, hI, hC⟩, fun j u hu => ?_⟩
  rw [cell_of_heap hg]
  match j, hu with
  | 0, hu => exact hu
  | 1, hu => exact hu
  | 2, hu => exact hu
  | 3, hu => exact hu
 | 1, hx =>
  cases hx
  refine ⟨_, rfl, ⟨c, e, rfl, hI2, hC2⟩, fun j u hu => ?_⟩
  rw [cell_of_heap hg]
  match j, hu with
  | 0, hu => exact hu
  | 1, hu => exact hu
  | 2, hu => exact hu
  | 3, hu => exact hu
structure AwA (w : World) (b1 o1 b2 o2 c2 : Nat) (aa : Option Addr) (ac b3 o3 c3 : Nat) : Prop where
 z1 : b1 < w.heap.size
 z2 : b2 < w.heap.size
 z3 : b3 < w.heap.size
 k1 : w.cell? ⟨b1, o1 + 4 + 3, none⟩ = some (.slice (some ⟨b2, o2, none⟩) 2 c2)
 k2 : w.cell? ⟨b2, o2 + 4, none⟩ = some (.int .i64 11)
 k3 : w.cell? ⟨b2, o2 + 4 + 1, none⟩ = some (.slice aa 0 ac)
 k4 : w.cell? ⟨b2, o2 + 4 + 2, none⟩ = some (.string ⟨#[]⟩)
 k5 : w.cell? ⟨b2, o2 + 4 + 3, none⟩ = some (.slice (some ⟨b3, o3, none⟩) 3 c3)
 k6 : w.cell? ⟨b3, o3 + 8, none⟩ = some (.int .i64 16)
theorem AwA.below {w w' : World} {b1 o1 b2 o2 c2 ac b3 o3 c3 : Nat} {aa : Option Addr} (h : AwA w b1 o1 b2 o2 c2 aa ac b3 o3 c3) (hb : Below w.heap.size w w') : AwA w' b1 o1 b2 o2 c2 aa ac b3 o3 c3 :=
 ⟨Nat.lt_of_lt_of_le h.z1 hb.size, Nat.lt_of_lt_of_le h.z2 hb.size, Nat.lt_of_lt_of_le h.z3 hb.size, (hb.cell h.z1).trans h.k1, (hb.cell h.z2).trans h.k2, (hb.cell h.z2).trans h.k3, (hb.cell h.z2).trans h.k4, (hb.cell h.z2).trans h.k5, (hb.cell h.z3).trans h.k6⟩
theorem awA_of {w : World} {S : Nat → Prop} {v : Value} (h : NodsR false 40 w S v (hostN exD).kids) : ∃ b1 o1 c1 b2 o2 c2 aa ac b3 o3 c3, v = .slice (some ⟨b1, o1, none⟩) 2 c1 ∧ AwA w b1 o1 b2 o2 c2 aa ac b3 o3 c3 := by
 rw [exD_host] at h
 obtain ⟨a, c, rfl, hc, hm, hx⟩ := nods_shape h
 obtain ⟨b1, o1, aa1, ac1, ka1, kc1, h1, _, rfl, hn1⟩ := hx 1 _ rfl
 obtain ⟨a2, c2, e2, hc2, hm2, hx2⟩ := nods_shape hn1.kidsR
 obtain ⟨b2, o2, aa2, ac2, ka2, kc2, h2, _, rfl, hn2⟩ := hx2 1 _ rfl
 obtain ⟨a3, c3, e3, hc3, hm3, hx3⟩ := nods_shape hn2.kidsR
 obtain ⟨b3, o3, aa3, ac3, ka3, kc3, h3, _, rfl, hn3⟩ := hx3 2 _ rfl
 have k1 := hn1.kids
 have k5 := hn2.kids
 rw [e2] at k1
 rw [e3] at k5
 exact ⟨b1, o1, c, b2, o2, c2, aa2, ac2, b3, o3, c3, rfl, hn1.lt, hn2.lt, hn3.lt, k1, hn2.tag, hn2.attrs, hn2.text, k5, hn3.tag⟩
structure AwB (w : World) (b1 o1 : Nat) (ka : Option Addr) (kc : Nat) : Prop where
 z1 : b1 < w.heap.size
 k1 : w.cell? ⟨b1, o1 + 3, none⟩ = some (.slice ka 2 kc)
theorem AwB.below {w w' : World} {b1 o1 kc : Nat} {ka : Option Addr} (h : AwB w b1 o1 ka kc) (hb : Below w.heap.size w w') : AwB w' b1 o1 ka kc := ⟨Nat.lt_of_lt_of_le h.z1 hb.size, (hb.cell h.z1).trans h.k1⟩
theorem awB_of {w : World} {S : Nat → Prop} {v : Value} (h : NodsR false 40 w S v (hostN exL).kids) : ∃ b1 o1 c1 ka kc, v = .slice (some ⟨b1, o1, none⟩) 1 c1 ∧ AwB w b1 o1 ka kc := by
 rw [exL_host] at h
 obtain ⟨a, c, rfl, hc, hm, hx⟩ := nods_shape h
 obtain ⟨b1, o1, aa1, ac1, ka1, kc1, h1, _, rfl, hn1⟩ := hx 0 _ rfl
 exact ⟨b1, o1, c, ka1, kc1, rfl, hn1.lt, by have := hn1.kids; rw [Nat.zero_mul, Nat.add_zero] at this; exact this⟩
end Go.Proofs.Qw
namespace Go.Proofs.YteognfhemmogpaaDoor
open Go.RowKit
open Go.Proofs.Qw
attribute [local go_sem] Oper.semAt_some
set_option maxRecDepth 100000 in
set_option maxHeartbeats 4000000 in
theorem awake19_any (w : World) (he : EnvT w) : Calls Tryd.prog 6 #[] w fun e w' => e = .returned (.bool true) ∧ Below w.heap.size w w' := by
 obtain ⟨W1, hW1⟩ : ∃ W1, (w.alloc (.cells #[.int .i32 97, .int .i64 0, .string ⟨#[]⟩, .int .i32 98, .int .i64 1, .string ⟨#[]⟩, .int .i32 99, .int .i64 3, .string ⟨#[]⟩, .int .i32 10, .int .i64 1, .string ⟨#[]⟩] 37)).alloc (.cells #[.int .i64 0, .slice none 0 0, .int .i64 0, .slice none 0 0, .int .i64 0, .slice none 0 0, .int .i64 0, .slice (some ⟨w.heap.size, 0, none⟩) 4 4] 26) = W1 := ⟨_, rfl⟩
 have hB : Below w.heap.size w W1 := hW1 ▸ ((Below.refl _ _).alloc (Nat.le_refl _) _).alloc (by simp) _
 have k0 : W1.heap[w.heap.size]? = some (.cells #[.int .i32 97, .int .i64 0, .string ⟨#[]⟩, .int .i32 98, .int .i64 1, .string ⟨#[]⟩, .int .i32 99, .int .i64 3, .string ⟨#[]⟩, .int .i32 10, .int .i64 1, .string ⟨#[]⟩] 37) := hW1 ▸ heap_old _ _ (heap_new _ _ rfl)
 have k1 : W1.heap[w.heap.size + 1]? = some (.cells #[.int .i64 0, .slice none 0 0, .int .i64 0, .slice none 0 0, .int .i64 0, .slice none 0 0, .int .i64 0, .slice (some ⟨w.heap.size, 0, none⟩) 4 4] 26) := hW1 ▸ heap_new _ _ (by simp)
 have hd : LinsR W1 (fun _ => True) (.slice (some ⟨w.heap.size + 1, 0, none⟩) 2 2) exD :=
  doc_twoR (l := ⟨0, [], 0, []⟩) (m := ⟨0, [], 0, [⟨97, 0, []⟩, ⟨98, 1, []⟩, ⟨99, 3, []⟩, ⟨10, 1, []⟩]⟩) k1 (SliceR.nil _ _ _ _ _ _) (SliceR.nil _ _ _ _ _ _) (SliceR.nil _ _ _ _ _ _) (slice_blkR (enc := encCel) (fun _ => rfl) [⟨97, 0, []⟩, ⟨98, 1, []⟩, ⟨99, 3, []⟩, ⟨10, 1, []⟩] k0 trivial (by decide)) trivial
 have HH : Hid (∀ W, Below W1.heap.size W1 W → Calls Tryd.prog 11 #[.slice (some ⟨w.heap.size + 1, 0, none⟩) 2 2] W fun e W' => ∃ b1 o1 c1 b2 o2 c2 aa ac b3 o3 c3, e = .returned (.tuple #[.agg #[.int .i64 1, .slice none 0 0, .string ⟨#[]⟩, .slice (some ⟨b1, o1, none⟩) 2 c1], .int .i64 0]) ∧ AwA W' b1 o1 b2 o2 c2 aa ac b3 o3 c3 ∧ Below W.heap.size W W') := Lib.hid fun W hW => (host_yes _ exD W W1 _ hd ((he.below hB).below hW) hW exD_may.1).mono fun _ _ ⟨k', h1, h2, h3⟩ => by
  obtain ⟨b1, o1, c1, b2, o2, c2, aa, ac, b3, o3, c3, rfl, ha⟩ := awA_of (h2.read fun _ _ g => rdNod_read g)
  rw [exD_host] at h1
  exact ⟨b1, o1, c1, b2, o2, c2, aa, ac, b3, o3, c3, h1, ha, h3⟩
 have HP : Hid (∀ W, Below W1.heap.size W1 W → Calls Tryd.prog 14 #[.slice (some ⟨w.heap.size + 1, 0, none⟩) 2 2, .agg #[.int .i64 1, .int .i64 4]] W fun e W' => ∃ b o c, e = .returned (.tuple #[.agg #[.slice (some ⟨b, o, none⟩) 2 c, .int .i64 3], .int .i64 0]) ∧ b < W'.heap.size ∧ W'.cell? ⟨b, o + 1, none⟩ = some (.int .i64 1) ∧ Below W.heap.size W W') := Lib.hid fun W hW => (point_yes _ exD ⟨1, 4⟩ W W1 _ hd ((he.below hB).below hW) hW exD_may.1 (by decide)).mono fun _ _ ⟨qa, qc, h1, h2, h3⟩ => by
  rw [exD_point] at h1 h2
  obtain ⟨a, c, e, _, _, hx⟩ := ints_shape h2
  cases e
  obtain ⟨b, o, rfl, hz, hc⟩ := hx 1 1 rfl
  exact ⟨b, o, _, h1, hz, hc, h3⟩
 have HH2 : Hid (∀ W, Below W1.heap.size W1 W → Calls Tryd.prog 11 #[.slice (some ⟨W.heap.size + 1 + 1, 0, none⟩) 2 2] (((W.alloc (.cells #[.int .i64 0] 3)).alloc (.cells #[.int .i64 0, .int .i64 1] 3)).alloc (.cells #[.int .i64 0, .slice (some ⟨W.heap.size, 0, none⟩) 1 1, .int .i64 0, .slice none 0 0, .int .i64 0, .slice (some ⟨W.heap.size + 1, 0, none⟩) 2 2, .int .i64 0, .slice none 0 0] 26)) fun e W' => ∃ b1 o1 c1 ka kc, e = .returned (.tuple #[.agg #[.int .i64 1, .slice none 0 0, .string ⟨#[]⟩, .slice (some ⟨b1, o1, none⟩) 1 c1], .int .i64 0]) ∧ AwB W' b1 o1 ka kc ∧ Below W.heap.size W W') := Lib.hid fun W hW => by
  obtain ⟨W3, hW3⟩ : ∃ W3, ((W.alloc (.cells #[.int .i64 0] 3)).alloc (.cells #[.int .i64 0, .int .i64 1] 3)).alloc (.cells #[.int .i64 0, .slice (some ⟨W.heap.size, 0, none⟩) 1 1, .int .i64 0, .slice none 0 0, .int .i64 0, .slice (some ⟨W.heap.size + 1, 0, none⟩) 2 2, .int .i64 0, .slice none 0 0] 26) = W3 := ⟨_, rfl⟩
  have hB3 : Below W.heap.size W W3 := hW3 ▸ (((Below.refl _ _).alloc (Nat.le_refl _) _).alloc (by simp) _).alloc (by simp; omega) _
  have g0 : W3.heap[W.heap.size]? = some (.cells #[.int .i64 0] 3) := hW3 ▸ heap_old _ _ (heap_old _ _ (heap_new _ _ rfl))
  have g1 : W3.heap[W.heap.size + 1]? = some (.cells #[.int .i64 0, .int .i64 1] 3) := hW3 ▸ heap_old _ _ (heap_new _ _ (by simp))
  have g2 : W3.heap[W.heap.size + 1 + 1]? = some (.cells #[.int .i64 0, .slice (some ⟨W.heap.size, 0, none⟩) 1 1, .int .i64 0, .slice none 0 0, .int .i64 0, .slice (some ⟨W.heap.size + 1, 0, none⟩) 2 2, .int .i64 0, .slice none 0 0] 26) := hW3 ▸ heap_new _ _ (by simp)
  rw [hW3]
  have hl : LinsR W3 (fun _ => True) (.slice (some ⟨W.heap.size + 1 + 1, 0, none⟩) 2 2) exL :=
   doc_twoR (l := ⟨0, [0], 0, []⟩) (m := ⟨0, [0, 1], 0, []⟩) g2 (slice_blkR (enc := encInt) (fun _ => rfl) [0] g0 trivial (by decide)) (SliceR.nil _ _ _ _ _ _) (slice_blkR (enc := encInt) (fun _ => rfl) [0, 1] g1 trivial (by decide)) (SliceR.nil _ _ _ _ _ _) trivial
  refine (host_yes _ exL W3 W3 _ hl (((he.below hB).below hW).below hB3) (Below.refl _ _) exD_may.2).mono fun _ _ ⟨k', h1, h2, h3⟩ => ?_
  obtain ⟨b1, o1, c1, ka, kc, rfl, ha⟩ := awB_of (h2.read fun _ _ g => rdNod_read g)
  rw [exL_host] at h1
  exact ⟨b1, o1, c1, ka, kc, h1, ha, below_from hB3 h3⟩
 have HW1 := Lib.hid hW1
 have HB := Lib.hid hB
 clear hd he k0 k1 hB hW1
 go_enter Tryd.func6, Tryd.ntmps6
 go_upto_region 7 with (first
  | (go_at_call 11; rw [HW1.out]; refine (HH.out _ (Below.refl _ _)).mono ?_; rintro e w2 ⟨b1, o1, c1, b2, o2, c2, aa, ac, b3, o3, c3, rfl, ha2, hb2⟩)
  | (go_at_call 14; refine (HP.out _ (hb2.alloc hb2.size _)).mono ?_; rintro e w3 ⟨pb, po, pc, rfl, hpz, hpc, hb3⟩; have hx3 := below_from (hb2.alloc hb2.size _) hb3; have hx23 := below_from ((Below.refl w2.heap.size w2).alloc (Nat.le_refl _) _) hb3; have hN3 := heap_below hb3 (heap_new _ _ rfl); obtain ⟨q1, g1⟩ := blk hN3; have hA3 := ha2.below hx23; obtain ⟨z1, z2, z3, m1, m2, m3, m4, m5, m6⟩ := hA3; have zn : w2.heap.size < w3.heap.size := alloc_le hb3.size))
 obtain ⟨W6, hW6⟩ : ∃ W6, (w3.alloc (.cells #[.slice (some ⟨pb, po, none⟩) 2 pc, .int .i64 3] 48)).alloc (.cells #[.int .i64 11, .slice aa 0 ac, .string ⟨#[]⟩, .slice (some ⟨b3, o3, none⟩) 3 c3] 41) = W6 := ⟨_, rfl⟩
 rw [hW6]
 have hb36 : Below w3.heap.size w3 W6 := hW6 ▸ ((Below.refl _ _).alloc (Nat.le_refl _) _).alloc (by simp) _
 have hP6 : Hid (W6.heap[w3.heap.size]? = some (.cells #[.slice (some ⟨pb, po, none⟩) 2 pc, .int .i64 3] 48)) := Lib.hid (hW6 ▸ heap_old _ _ (heap_new _ _ rfl))
 have hB6 : Hid (W6.heap[w3.heap.size + 1]? = some (.cells #[.int .i64 11, .slice aa 0 ac, .string ⟨#[]⟩, .slice (some ⟨b3, o3, none⟩) 3 c3] 41)) := Lib.hid (hW6 ▸ heap_new _ _ (by simp))
 have HA6 := Lib.hid (ha2.below (below_from hx23 hb36))
 have hx6 := Lib.hid (below_from hx3 hb36)
 have HPC := Lib.hid (And.intro (Nat.lt_of_lt_of_le hpz hb36.size) ((hb36.cell (p := ⟨pb, po + 1, none⟩) hpz).trans hpc))
 clear hW6 hb36 hx3 hx23 hpz hpc ha2 hb2 hb3 q1 g1 z1 z2 z3 m1 m2 m3 m4 m5 m6 zn hN3
 go_wp2_with (first
  | (go_at_call 11; refine (HH2.out _ hx6.out).mono ?_; rintro e w7 ⟨d1, p1, c4, ka, kc, rfl, hb7, hx67⟩; obtain ⟨q1, g1⟩ := blk (heap_below hx67 hP6.out); obtain ⟨q2, g2⟩ := blk (heap_below hx67 hB6.out); obtain ⟨z1, z2, z3, m1, m2, m3, m4, m5, m6⟩ := HA6.out.below hx67; have y1 := (Array.getElem?_eq_some_iff.1 (heap_below hx67 hP6.out)).1; have y2 := (Array.getElem?_eq_some_iff.1 (heap_below hx67 hB6.out)).1; obtain ⟨z7, m7⟩ := hb7; have z8 := Nat.lt_of_lt_of_le HPC.out.1 hx67.size; have m8 := (hx67.cell (p := ⟨pb, po + 1, none⟩) HPC.out.1).trans HPC.out.2; have hx7 := Lib.hid (below_from hx6.out hx67); clear hx67)
  )
 go_ret
 exact ⟨rfl, HB.out.trans ((hx7.out.alloc hx7.out.size _).mono HB.out.size)⟩
end Go.Proofs.YteognfhemmogpaaDoor
namespace Go.Proofs.YteognfhemmogpaaDoor
open Go.RowKit
open Go.Proofs.Qw
set_option maxRecDepth 100000 in
set_option maxHeartbeats 4000000 in
theorem long19_any (v : Value) (d : Doc) (w : World) (S : Nat → Prop) (h : LinsR w S v d) (hs : Sane d) :
  Calls Tryd.prog 5 #[v] w (LongSaid d w) := by
 obtain ⟨a, c, rfl, hc, hm, hx⟩ := lins_shape h
 have HX := Lib.hid hx
 have HS := Lib.hid hs
 unfold maxLen at hm
 clear hx h hs
 go_enter Tryd.func5, Tryd.ntmps5
 by_cases hl : 300 < d.length
 ·go_wp2_with fail
  go_ret
  exact ⟨true, rfl, (fun h => by cases h), Below.refl _ _⟩
 ·go_wp2_with fail
  go_loopw [3, 4, 5] (fun n i _ wr => ∃ (k m : Nat), k ≤ d.length ∧ i = .int .i64 k ∧ n = .int .i64 m ∧ m ≤ 5000 ∧ Hid (sizeD (d.take k) ≤ m ∧ ∀ l ∈ d.take k, l.lists.length ≤ 20000 ∧ ∀ c ∈ l.cells, c.href.length ≤ 160007) ∧ Below w.heap.size w wr) (fun _ i _ _ => d.length - (intOf i).toNat)
  case atStart => exact ⟨0, 0, Nat.zero_le _, rfl, rfl, Nat.zero_le _, Lib.hid ⟨Nat.le_refl _, fun l h => by cases h⟩, Below.refl _ _⟩
  case round =>
   obtain ⟨k, m, hk, rfl, rfl, hm2, HA, hb⟩ := hrel
   obtain ⟨wo, rfl⟩ : ∃ wo : World, wo = wr := ⟨_, rfl⟩
   by_cases hlt : k < d.length
   ·obtain ⟨l, hl', hd⟩ := getOf d k hlt
    obtain ⟨b, o, la, lc, ca, cc, rfl, hA⟩ := HX.out k l hl'
    have hsn := HS.out l (List.mem_of_getElem? hl')
    have hs1 := hsn.1
    have hs2 := hsn.2.1
    have HS3 := Lib.hid hsn.2.2
    have HA2 := Lib.hid hA
    obtain ⟨_, c0, c1, c2, c3, _, hcr⟩ := hA.below hb
    obtain ⟨ca', cc', hce, hcl, hcm, hcx⟩ := cels_shape hA.cellsR
    cases hce
    have HCX := Lib.hid hcx
    have HT := Lib.hid hl'
    have i0 : (0 : Int) ≤ (k : Int) := Int.natCast_nonneg _
    have i1 : (k : Int) < (d.length : Int) := by omega
    have hw : IntKind.i64.wrap ((l.cells.length : Int) + (l.lists.length : Int)) = (l.cells.length : Int) + (l.lists.length : Int) := IntWalk.i64_in _ (by omega)
    have hw2 : IntKind.i64.wrap ((m : Int) + ((l.cells.length : Int) + (l.lists.length : Int))) = (m : Int) + ((l.cells.length : Int) + (l.lists.length : Int)) := IntWalk.i64_in _ (by omega)
    unfold maxLen at hcm
    clear hA hl' hd hsn hcx hcr
    go_wp2_with fail
    go_quiet (fail)
    clear hw hw2
    go_wp2_with fail
    go_loopw [3, 5] (fun n j wi => ∃ (q m' : Nat), q ≤ l.cells.length ∧ j = .int .i64 q ∧ n = .int .i64 m' ∧ m' ≤ 562949953421312 ∧ Hid (m + (l.cells.length + l.lists.length) ≤ m' ∧ (m' ≤ 5000 → ∀ c ∈ l.cells.take q, c.href.length ≤ 160007)) ∧ Below w.heap.size w wi) (fun _ j _ => l.cells.length - (intOf j).toNat)
    case atStart => exact ⟨0, m + (l.cells.length + l.lists.length), Nat.zero_le _, rfl, by go_num, by omega, Lib.hid ⟨Nat.le_refl _, fun _ c h => by cases h⟩, drewN_below hb⟩
    case round =>
     obtain ⟨q, m', hq, rfl, rfl, hm3, HQ, hb2⟩ := hrel
     obtain ⟨hzb, c0, c1, c2, c3, _, _⟩ := HA2.out.below hb2
     have hcs : (q < l.cells.length ∧ m' ≤ 5000) ∨ 5000 < m' ∨ (q = l.cells.length ∧ m' ≤ 5000) := by omega
     rcases hcs with ⟨h1, h2⟩ | h2 | ⟨h1, h2⟩
     ·obtain ⟨x, hx, _⟩ := getOf l.cells q h1
      obtain ⟨bc, oc, rfl, hz, k0, k1, k2⟩ := HCX.out q x hx
      have k2 := (hb2.cell (p := ⟨bc, oc + q * 3 + 2, none⟩) hz).trans k2
      have hxl := HS3.out x (List.mem_of_getElem? hx)
      have HN : Hid (m + (l.cells.length + l.lists.length) ≤ m' + x.href.length / 16 ∧ (m' + x.href.length / 16 ≤ 5000 → ∀ c ∈ l.cells.take (q + 1), c.href.length ≤ 160007)) := Lib.hid ⟨by have := HQ.out.1; omega, fun h c hc => by
       rw [take_some hx, List.mem_append] at hc
       rcases hc with hc | hc
       ·exact HQ.out.2 (by omega) c hc
       ·rw [List.mem_singleton] at hc; subst hc; omega⟩
      clear hx
      go_wp2_with fail
      go_roundw
      case rel => exact ⟨q + 1, m' + x.href.length / 16, h1, by go_num, by go_num, by omega, HN, hb2⟩
      case measure => simp [intOf]; omega
     ·by_cases h1 : q < l.cells.length
      all_goals
       go_wp2_with fail
       go_ret
       exact ⟨true, rfl, (fun h => by cases h), hb2⟩
     ·subst h1
      have HN : Hid (sizeD (d.take (k + 1)) ≤ m' ∧ ∀ l ∈ d.take (k + 1), l.lists.length ≤ 20000 ∧ ∀ c ∈ l.cells, c.href.length ≤ 160007) := Lib.hid (by
       have h3 := HQ.out.1
       have h4 := sizeD_step HT.out
       have h5 := HA.out.1
       refine ⟨by omega, fun x hx => ?_⟩
       rw [take_some HT.out, List.mem_append] at hx
       rcases hx with hx | hx
       ·exact HA.out.2 x hx
       ·rw [List.mem_singleton] at hx
        subst hx
        exact ⟨by omega, fun c hc => HQ.out.2 h2 c (by rw [List.take_length]; exact hc)⟩)
      go_wp2_with fail
      go_roundw
      case rel => exact ⟨k + 1, m', hlt, by go_num, rfl, h2, HN, hb2⟩
      case measure => simp [intOf]; omega
   ·obtain rfl : k = d.length := by omega
    have HF : Hid (Sml d) := Lib.hid (by
     have h1 := HA.out
     rw [List.take_length] at h1
     exact ⟨by omega, by omega, h1.2⟩)
    have HB := Lib.hid hb
    clear hb
    go_wp2_with fail
    go_ret
    exact ⟨false, rfl, fun _ => HF.out, HB.out⟩
end Go.Proofs.YteognfhemmogpaaDoor
