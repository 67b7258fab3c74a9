/- The walks of the law's 'spoil', 'is': blocks stay of their type and size. -/
import Derived.Test.YtfoiaoopbkcpoaaGreatDoorIs
namespace Go.Proofs.YtfoiaoopbkcpoaaGreatDoor
open Go.RowKit
open Go.Proofs.Qw
/-- Blocks of cells stay of their type and size. -/
def Kin (w w' : World) : Prop := ∀ (b : Nat) (cs : Array Value) (t : TypeId), w.heap[b]? = some (.cells cs t) → ∃ cs' : Array Value, w'.heap[b]? = some (.cells cs' t) ∧ cs'.size = cs.size
theorem Kin.behind {w w1 w2 : World} (hb : Below w.heap.size w w1) (h : Shp w1 w2) : Kin w w2 := fun b cs t hc => by
  obtain ⟨cs', g1, g2, _⟩ := h b cs t (heap_below hb hc)
  exact ⟨cs', g1, g2⟩
set_option maxRecDepth 100000 in
set_option maxHeartbeats 4000000 in
theorem spoilS_any (v : Value) (d : List Lin) (n : Nat) (w : World) (h : DocR true w (fun b => n ≤ b) v d) :
    Calls Tryz.prog 67 #[v] w fun e w' => (∃ u, e = .returned u) ∧ Below n w w' ∧ Shp w w' := by
  obtain ⟨a, c, rfl, hc, hm, hx⟩ := docOwn_shape h
  have HX := Lib.hid hx
  unfold maxLen at hm
  clear hx h
  go_enter Tryz.func67, Tryz.ntmps67
  go_wp2_with fail
  go_loopw [2, 3, 4] (fun i _ _ wr => ∃ k : Nat, k ≤ d.length ∧ i = .int .i64 k ∧ Shp w wr ∧ Below n w wr) (fun i _ _ _ => d.length - (intOf i).toNat)
  case atStart => exact ⟨0, Nat.zero_le _, rfl, Shp.refl _, Below.refl _ _⟩
  case round =>
    obtain ⟨k, hk, rfl, hS, hb⟩ := hrel
    obtain ⟨wo, rfl⟩ : ∃ wo : World, wo = wr := ⟨_, rfl⟩
    by_cases hlt : k < d.length
    · obtain ⟨l, hl, hd⟩ := getOf d k hlt
      obtain ⟨b, o, cs, la, lc, ca, cc, rfl, hSb, hg, e1, e2, e3, hI, hC⟩ := HX.out k l hl
      have hSb : n ≤ b := hSb
      have hcl := hC.len
      have hil := hI.len
      have HL := Lib.hid (And.intro hg (And.intro e1 (And.intro e2 e3)))
      have HIC := Lib.hid (And.intro hI hC)
      have q1 := hS.slice hg e1
      have q3 := hS.slice hg e3
      have hSS := Lib.hid hS
      unfold maxLen at hcl hil
      clear hl hd hI hC hg e1 e2 e3 hS
      go_wp2_with fail
      go_loopw [3] (fun j wi => ∃ q : Nat, q ≤ l.cells.length ∧ j = .int .i64 q ∧ Shp w wi ∧ Below n w wi) (fun j _ => l.cells.length - (intOf j).toNat)
      case atStart => exact ⟨0, Nat.zero_le _, rfl, hSS.out, hb⟩
      case round =>
        clear q1 q3 hSS hb
        obtain ⟨q, hq, rfl, hS, hb⟩ := hrel
        have q1 := hS.slice HL.out.1 HL.out.2.1
        have q3 := hS.slice HL.out.1 HL.out.2.2.2
        have HS := Lib.hid hS
        by_cases hlt2 : q < l.cells.length
        · obtain ⟨bc, oc, cs2, rfl, hSc, hg2, hsz⟩ := HIC.out.2.cellAt hlt2
          have hSc : n ≤ bc := hSc
          obtain ⟨⟨u, hu⟩, hf⟩ := hS.at (off := oc + q * 3 + 1) hg2 (by omega)
          have HG2 := Lib.hid hg2
          clear hS hg2
          go_wp2_with fail
          go_roundw
          case rel => exact ⟨q + 1, hlt2, by go_num, HS.out.set HG2.out (fun e => absurd e (by decide)) _, hb.setCell hSc _⟩
          case measure => simp [intOf]; omega
        · obtain rfl : q = l.cells.length := by omega
          clear hS
          go_wp2_with fail
          go_loopw [4] (fun j wi => ∃ q : Nat, q ≤ l.lists.length ∧ j = .int .i64 q ∧ Shp w wi ∧ Below n w wi) (fun j _ => l.lists.length - (intOf j).toNat)
          case atStart => exact ⟨0, Nat.zero_le _, rfl, HS.out, hb⟩
          case round =>
            clear q1 q3 HS hb
            obtain ⟨q, hq, rfl, hS, hb⟩ := hrel
            have q1 := hS.slice HL.out.1 HL.out.2.1
            have q3 := hS.slice HL.out.1 HL.out.2.2.2
            have HS := Lib.hid hS
            by_cases hlt2 : q < l.lists.length
            · obtain ⟨bc, oc, cs2, rfl, hSc, hg2, hsz⟩ := HIC.out.1.cellAt hlt2
              have hSc : n ≤ bc := hSc
              obtain ⟨⟨u, hu⟩, hf⟩ := hS.at (off := oc + q * 1) hg2 (by omega)
              rw [Nat.mul_one] at hu hf
              have HG2 := Lib.hid hg2
              clear hS hg2
              go_wp2_with fail
              go_roundw
              case rel => exact ⟨q + 1, hlt2, by go_num, HS.out.set HG2.out (fun e => absurd e (by decide)) _, hb.setCell hSc _⟩
              case measure => simp [intOf]; omega
            · obtain rfl : q = l.lists.length := by omega
              have hos : o + k * 4 + 2 < cs.size := (Array.getElem?_eq_some_iff.1 HL.out.2.2.1).1
              obtain ⟨⟨u, hu⟩, hf⟩ := hS.at (off := o + k * 4 + 2) HL.out.1 hos
              clear hS
              go_wp2_with fail
              go_roundw
              case rel => exact ⟨k + 1, hlt, by go_num, HS.out.set HL.out.1 (fun _ => ⟨_, _, HL.out.2.2.1⟩) _, hb.setCell hSb _⟩
              case measure => simp [intOf]; omega
    · obtain rfl : k = d.length := by omega
      have HB := Lib.hid (And.intro hb hS)
      clear hb hS
      go_wp2_with fail
      go_returns
      exact ⟨⟨_, rfl⟩, HB.out⟩
set_option maxRecDepth 100000 in
set_option maxHeartbeats 4000000 in
theorem lawIsS_any (v m : Value) (x y : Doc) (e f : Int) (n : Nat) (w : World) (S : Nat → Prop) (hn : n ≤ w.heap.size) (hx : DocR true w (fun b => n ≤ b) v x) (hy : LinsR w S m y) :
    Calls Tryz.prog 31 #[v, .int .i64 e, m, .int .i64 f] w fun r w' => r = .returned (.bool (decide (e = f) && decide (x = y))) ∧ Below n w w' ∧ Kin w w' := by
  have HS := Lib.hid (refSame_any v m x y w _ S hx.read hy)
  have HP : Hid (∀ W, Below w.heap.size w W → Calls Tryz.prog 67 #[v] W fun e w' => (∃ u, e = .returned u) ∧ Below n W w' ∧ Shp W w') := Lib.hid fun W hW => spoilS_any v x n W (hx.below hW)
  have hw0 : Below w.heap.size w w := Below.refl _ _
  obtain ⟨a1, c1, rfl⟩ := hx.slice
  obtain ⟨a2, c2, rfl⟩ := hy.slice
  generalize decide (x = y) = s at *
  generalize x.length = n1 at *
  generalize y.length = n2 at *
  clear hx hy
  by_cases hef : e = f
  · subst hef
    have hq : (e == e) = true := beq_self_eq_true _
    have HD : Hid (decide (e = e) = true) := Lib.hid (decide_eq_true rfl)
    cases s
    all_goals
      go_enter Tryz.func31, Tryz.ntmps31
      go_wp2_with (first | (go_at_call 33; refine HS.out.mono ?_; rintro e1 w1 ⟨rfl, hb1⟩) | (go_at_call 67; refine (HP.out _ hb1).mono ?_; rintro e1 w2 ⟨⟨u, rfl⟩, hb2, hS2⟩))
      go_ret
      rw [HD.out]
      exact ⟨rfl, (hb1.mono hn).trans hb2, Kin.behind hb1 hS2⟩
  · have hq : (e == f) = false := beq_eq_false_iff_ne.2 hef
    have HD : Hid (decide (e = f) = false) := Lib.hid (decide_eq_false hef)
    clear hef
    go_enter Tryz.func31, Tryz.ntmps31
    go_wp2_with (go_at_call 67; refine (HP.out _ hw0).mono ?_; rintro e1 w2 ⟨⟨u, rfl⟩, hb2, hS2⟩)
    go_ret
    rw [HD.out]
    exact ⟨rfl, hb2, Kin.behind hw0 hS2⟩
end Go.Proofs.YtfoiaoopbkcpoaaGreatDoor
