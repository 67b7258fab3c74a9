/- The walk of the reference's Long. -/
import Derived.Test.YtfoiaoopbkcpoaaGreatDoorRefMay
namespace Go.Proofs.YtfoiaoopbkcpoaaGreatDoor
open Go.RowKit
open Go.Proofs.Qw

/-- What no machine has more of. -/
def Sane (d : Doc) : Prop := ∀ l ∈ d, l.lists.length ≤ 70368744177664 ∧ l.cells.length ≤ 70368744177664 ∧ ∀ c ∈ l.cells, c.href.length ≤ 281474976710656
/-- What Long lets pass. -/
structure Sml (d : Doc) : Prop where
  len : d.length ≤ 300
  size : sizeD d ≤ 20000
  lin : ∀ l ∈ d, l.lists.length ≤ 20000 ∧ ∀ c ∈ l.cells, c.href.length ≤ 160007
theorem Sml.small {d : Doc} (h : Sml d) : Small d := ⟨by have := h.size; omega, by have := h.len; omega, fun l hl c hc => by have := (h.lin l hl).2 c hc; omega⟩
theorem Sml.fits {d : Doc} (h : Sml d) : Fits d := ⟨by have := h.len; omega, fun l hl => ⟨by have := (h.lin l hl).1; omega, by
  obtain ⟨i, hi⟩ := List.getElem?_of_mem hl
  have := cells_le hi
  have := h.size
  omega⟩⟩

/-- What Long answers. -/
def LongSaid (d : Doc) (w : World) (e : Ending) (w' : World) : Prop := ∃ r, e = .returned (.bool r) ∧ (r = false → Sml d) ∧ Below w.heap.size w w'
set_option maxRecDepth 100000 in
set_option maxHeartbeats 4000000 in
theorem refLong_any (v : Value) (d : Doc) (w : World) (S : Nat → Prop) (h : LinsR w S v d) (hs : Sane d) :
    Calls Tryz.prog 59 #[v] w (LongSaid d w) := by
  obtain ⟨a, c, rfl, hc, hm, hx⟩ := lins_shape h
  have HX := Lib.hid hx
  have HS := Lib.hid hs
  unfold maxLen at hm
  clear hx h hs
  go_enter Tryz.func59, Tryz.ntmps59
  by_cases hl : 300 < d.length
  · go_wp2_with fail
    go_ret
    exact ⟨true, rfl, (fun h => by cases h), Below.refl _ _⟩
  · go_wp2_with fail
    go_loopw [3, 4, 5] (fun n i _ wr => ∃ (k m : Nat), k ≤ d.length ∧ i = .int .i64 k ∧ n = .int .i64 m ∧ m ≤ 20000 ∧ Hid (sizeD (d.take k) ≤ m ∧ ∀ l ∈ d.take k, l.lists.length ≤ 20000 ∧ ∀ c ∈ l.cells, c.href.length ≤ 160007) ∧ Below w.heap.size w wr) (fun _ i _ _ => d.length - (intOf i).toNat)
    case atStart => exact ⟨0, 0, Nat.zero_le _, rfl, rfl, Nat.zero_le _, Lib.hid ⟨Nat.le_refl _, fun l h => by cases h⟩, Below.refl _ _⟩
    case round =>
      obtain ⟨k, m, hk, rfl, rfl, hm2, HA, hb⟩ := hrel
      obtain ⟨wo, rfl⟩ : ∃ wo : World, wo = wr := ⟨_, rfl⟩
      by_cases hlt : k < d.length
      · obtain ⟨l, hl', hd⟩ := getOf d k hlt
        obtain ⟨b, o, la, lc, ca, cc, rfl, hA⟩ := HX.out k l hl'
        have hsn := HS.out l (List.mem_of_getElem? hl')
        have hs1 := hsn.1
        have hs2 := hsn.2.1
        have HS3 := Lib.hid hsn.2.2
        have HA2 := Lib.hid hA
        obtain ⟨_, c0, c1, c2, c3, _, hcr⟩ := hA.below hb
        obtain ⟨ca', cc', hce, hcl, hcm, hcx⟩ := cels_shape hA.cellsR
        cases hce
        have HCX := Lib.hid hcx
        have HT := Lib.hid hl'
        have i0 : (0 : Int) ≤ (k : Int) := Int.natCast_nonneg _
        have i1 : (k : Int) < (d.length : Int) := by omega
        have hw : IntKind.i64.wrap ((l.cells.length : Int) + (l.lists.length : Int)) = (l.cells.length : Int) + (l.lists.length : Int) := IntWalk.i64_in _ (by omega)
        have hw2 : IntKind.i64.wrap ((m : Int) + ((l.cells.length : Int) + (l.lists.length : Int))) = (m : Int) + ((l.cells.length : Int) + (l.lists.length : Int)) := IntWalk.i64_in _ (by omega)
        unfold maxLen at hcm
        clear hA hl' hd hsn hcx hcr
        go_wp2_with fail
        go_quiet (fail)
        clear hw hw2
        go_wp2_with fail
        go_loopw [3, 5] (fun n j wi => ∃ (q m' : Nat), q ≤ l.cells.length ∧ j = .int .i64 q ∧ n = .int .i64 m' ∧ m' ≤ 562949953421312 ∧ Hid (m + (l.cells.length + l.lists.length) ≤ m' ∧ (m' ≤ 20000 → ∀ c ∈ l.cells.take q, c.href.length ≤ 160007)) ∧ Below w.heap.size w wi) (fun _ j _ => l.cells.length - (intOf j).toNat)
        case atStart => exact ⟨0, m + (l.cells.length + l.lists.length), Nat.zero_le _, rfl, by go_num, by omega, Lib.hid ⟨Nat.le_refl _, fun _ c h => by cases h⟩, drewN_below hb⟩
        case round =>
          obtain ⟨q, m', hq, rfl, rfl, hm3, HQ, hb2⟩ := hrel
          obtain ⟨hzb, c0, c1, c2, c3, _, _⟩ := HA2.out.below hb2
          have hcs : (q < l.cells.length ∧ m' ≤ 20000) ∨ 20000 < m' ∨ (q = l.cells.length ∧ m' ≤ 20000) := by omega
          rcases hcs with ⟨h1, h2⟩ | h2 | ⟨h1, h2⟩
          · obtain ⟨x, hx, _⟩ := getOf l.cells q h1
            obtain ⟨bc, oc, rfl, hz, k0, k1, k2⟩ := HCX.out q x hx
            have k2 := (hb2.cell (p := ⟨bc, oc + q * 3 + 2, none⟩) hz).trans k2
            have hxl := HS3.out x (List.mem_of_getElem? hx)
            have HN : Hid (m + (l.cells.length + l.lists.length) ≤ m' + x.href.length / 8 ∧ (m' + x.href.length / 8 ≤ 20000 → ∀ c ∈ l.cells.take (q + 1), c.href.length ≤ 160007)) := Lib.hid ⟨by have := HQ.out.1; omega, fun h c hc => by
              rw [take_some hx, List.mem_append] at hc
              rcases hc with hc | hc
              · exact HQ.out.2 (by omega) c hc
              · rw [List.mem_singleton] at hc; subst hc; omega⟩
            clear hx
            go_wp2_with fail
            go_roundw
            case rel => exact ⟨q + 1, m' + x.href.length / 8, h1, by go_num, by go_num, by omega, HN, hb2⟩
            case measure => simp [intOf]; omega
          · by_cases h1 : q < l.cells.length
            all_goals
              go_wp2_with fail
              go_ret
              exact ⟨true, rfl, (fun h => by cases h), hb2⟩
          · subst h1
            have HN : Hid (sizeD (d.take (k + 1)) ≤ m' ∧ ∀ l ∈ d.take (k + 1), l.lists.length ≤ 20000 ∧ ∀ c ∈ l.cells, c.href.length ≤ 160007) := Lib.hid (by
              have h3 := HQ.out.1
              have h4 := sizeD_step HT.out
              have h5 := HA.out.1
              refine ⟨by omega, fun x hx => ?_⟩
              rw [take_some HT.out, List.mem_append] at hx
              rcases hx with hx | hx
              · exact HA.out.2 x hx
              · rw [List.mem_singleton] at hx
                subst hx
                exact ⟨by omega, fun c hc => HQ.out.2 h2 c (by rw [List.take_length]; exact hc)⟩)
            go_wp2_with fail
            go_roundw
            case rel => exact ⟨k + 1, m', hlt, by go_num, rfl, h2, HN, hb2⟩
            case measure => simp [intOf]; omega
      · obtain rfl : k = d.length := by omega
        have HF : Hid (Sml d) := Lib.hid (by
          have h1 := HA.out
          rw [List.take_length] at h1
          exact ⟨by omega, by omega, h1.2⟩)
        have HB := Lib.hid hb
        clear hb
        go_wp2_with fail
        go_ret
        exact ⟨false, rfl, fun _ => HF.out, HB.out⟩
end Go.Proofs.YtfoiaoopbkcpoaaGreatDoor
