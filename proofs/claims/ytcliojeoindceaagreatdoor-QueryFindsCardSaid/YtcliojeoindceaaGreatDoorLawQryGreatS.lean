/- The walk of the law's 'great' of layer 26: letters made great. -/
import Derived.Test.YtcliojeoindceaaGreatDoorLawQryAwakeS
import Derived.Maps.AppendAt
set_option linter.unusedVariables false
set_option linter.unusedSimpArgs false
set_option maxHeartbeats 8000000
namespace Go.Proofs.YtcliojeoindceaaGreatDoor
open Go.RowKit
open Go.Proofs.Qw
attribute [local go_sem] Oper.semAt_some
open _root_.Go.Lib renaming hid → zA
theorem infoByteQ : (Tryz.prog.info? 5).map (fun i => (i.zero, i.size, i.bytes)) = some (some (.int .u8 0), 1, 1) := by kernel_rfl
theorem string_rowQ {w : World} {n : Nat} {v : Value} {l : List UInt8} (h : w.ownsRow n 5 1 v l.length (bv l)) : (convert 85 9 v).run Tryz.prog w = .ok (.string ⟨l.toArray⟩) w := by
 obtain ⟨h1, ⟨rfl, h2⟩ | ⟨g, cap, cur, rfl, _⟩⟩ := id h
 ·have : l = [] := List.length_eq_zero_iff.1 h2
  subst this
  exact run_convert_bytes_nil w 85 5 Tryz.underlying85 Tryz.underlying5 0 0 9 Tryz.underlying9
 ·refine run_convert_bytes_back w 85 9 5 ⟨g, 0, none⟩ cap l Tryz.underlying85 Tryz.underlying5 Tryz.underlying9 (fun j hj => ?_)
  exact h.cells (g := g) rfl j _ (bv_get (List.getElem?_eq_getElem hj))
theorem lowB_sub {b : UInt8} (h1 : 97 ≤ (b.toNat : Int)) (h2 : (b.toNat : Int) ≤ 122) : ∃ c : UInt8, (c.toNat : Int) = (b.toNat : Int) - 32 ∧ lowB c = lowB b := by
 refine ⟨b - 32, ?_, ?_⟩
 ·have : (b - 32).toNat = b.toNat - 32 := by
   rw [UInt8.toNat_sub]
   show (256 - 32 + b.toNat) % 256 = _
   omega
  omega
 ·have H : ∀ n : Fin 256, 97 ≤ n.val → n.val ≤ 122 → lowB (UInt8.ofNat n.val - 32) = lowB (UInt8.ofNat n.val) := by decide +kernel
  have hb : UInt8.ofNat b.toNat = b := UInt8.ofNat_toNat
  have := H ⟨b.toNat, UInt8.toNat_lt b⟩ (by show 97 ≤ b.toNat; omega) (by show b.toNat ≤ 122; omega)
  rw [hb] at this
  exact this
theorem snocG {α : Type} {xs : List α} {k : Nat} {x : α} (h : xs[k]? = some x) : xs.take (k + 1) = xs.take k ++ [x] := by
 obtain ⟨hk, rfl⟩ := List.getElem?_eq_some_iff.1 h
 exact List.take_succ_eq_append_getElem hk
theorem appendG {W w1 : World} {n₀ : Nat} {e : TypeId} {size k : Nat} {v : Value} {xs : List Value} {tmp : Obj} (hrow : W.ownsRow n₀ e size v k xs) (hn : n₀ ≤ W.heap.size) (hg : (W.alloc tmp).grownBy w1 v.ownBlock) : Below n₀ W w1 :=
 ((Below.refl n₀ W).alloc hn tmp).grown hg (by simp; omega) fun j ej => (hrow.lt j ej).1
structure QW (P : Program) (ops : Array Oper) (C : World → Prop) (Q : Act → Prop) (rest : List Oper) (a : Act) : Prop where
 out : wpQuiet P ops C Q rest a
theorem QW.want {P : Program} {ops : Array Oper} {C : World → Prop} {Q : Act → Prop} {a : Act} {o : Oper} {rest : List Oper} (hw : Region.wanted o (yielded ops a.tmps) = true) (h : ∀ K : Act → Prop, (∀ a, QW P ops C Q rest a → K a) → o.quiet P a C K) : QW P ops C Q (o :: rest) a :=
 ⟨BigFrame.wpQuiet_want hw fun K hK => h K fun a ha => hK a ha.out⟩
theorem QW.skip {P : Program} {ops : Array Oper} {C : World → Prop} {Q : Act → Prop} {a : Act} {o : Oper} {rest : List Oper} (hw : Region.wanted o (yielded ops a.tmps) = false) (h : QW P ops C Q rest (a.put o.dst undef)) : QW P ops C Q (o :: rest) a :=
 ⟨BigFrame.wpQuiet_skip hw h.out⟩
theorem getG (s : ByteArray) (k : Nat) (h : k < s.size) : s.data.toList[k]? = some s[k] := by rw [Array.getElem?_toList, Array.getElem?_eq_getElem h]; rfl
set_option maxRecDepth 100000 in
theorem great_any (s : ByteArray) (bits : Int) (w : World) (hs : s.size ≤ 1000) :
  Calls Tryz.prog 30 #[.string s, .int .u32 bits] w fun e w' => ∃ g : List UInt8, e = .returned (.string ⟨g.toArray⟩) ∧ g.map lowB = s.data.toList.map lowB ∧ g.length = s.size ∧ Below w.heap.size w w' := by
 obtain ⟨i0, hi, hz0, hz1, hz2⟩ := info_parts infoByteQ
 go_enter Tryz.func30, Tryz.ntmps30
 go_wp2_with fail
 go_loopw [5, 6, 7] (fun b i _ wr => ∃ (k : Nat) (g : List UInt8), k ≤ s.size ∧ i = .int .i64 k ∧ g.length = k ∧ Hid (g.map lowB = (s.data.toList.take k).map lowB) ∧ wr.ownsRow w.heap.size 5 1 b k (bv g) ∧ Below w.heap.size w wr) (fun _ i _ _ => s.size - (intOf i).toNat)
 case atStart => exact ⟨0, [], by omega, rfl, rfl, zA rfl, World.ownsRow_nil _ _ _ _, Below.refl _ _⟩
 case round =>
  obtain ⟨k, g, hk, rfl, hgl, HG, hrow, hb⟩ := hrel
  by_cases hlt : k < s.size
  ·have hB : w.heap.size ≤ wr.heap.size := hb.size
   have e1 : IntKind.i64.wrap (k : Int) = (k : Int) := IntWalk.i64_in _ (by omega)
   have hst := snocG (getG s k hlt)
   have HT : Hid (s.data.toList.take (k + 1) = s.data.toList.take k ++ [s[k]]) := zA hst
   clear hst
   have HA : Hid (∀ (x : Int) (c : UInt8) (v : Value) (W : World), (c.toNat : Int) = x → lowB c = lowB s[k] → W.ownsRow w.heap.size 5 1 v (k + 1) (bv g ++ [.int .u8 x]) → ∃ g' : List UInt8, g'.length = k + 1 ∧ Hid (g'.map lowB = (s.data.toList.take (k + 1)).map lowB) ∧ W.ownsRow w.heap.size 5 1 v (k + 1) (bv g')) := zA (by
    rintro x c v W rfl hc ho
    refine ⟨g ++ [c], by rw [List.length_append, hgl]; rfl, zA (by rw [HT.out, List.map_append, List.map_append, HG.out, List.map_singleton, List.map_singleton, hc]), ?_⟩
    have : bv (g ++ [c]) = bv g ++ [.int .u8 (c.toNat : Int)] := by simp [bv]
    rw [this]; exact ho)
   by_cases hc : 97 ≤ (s[k].toNat : Int) ∧ (s[k].toNat : Int) ≤ 122
   ·obtain ⟨c1, c2⟩ := hc
    obtain ⟨c, hc1, hc2⟩ := lowB_sub c1 c2
    have HC1 := zA hc1
    have HC2 := zA hc2
    clear hc1 hc2
    by_cases hbit : (Go.bits .and .u32 (bits / 2 ^ (k % 32)) 1 == 1) = true
    ·go_wp2_with (at_builtin; refine wpList_append_own _ rfl _ _ 85 rfl w.heap.size 5 i0 (.int .u8 0) 1 1 Tryz.underlying85 hi hz0 hz1 hz2 rfl (by decide) _ _ _ rfl (hrow.alloc _) ⟨wr.heap.size, 0, none⟩ 1 1 [.int .u8 ((s[k].toNat : Int) - 32)] rfl rfl (cell_one_new _ _ _) (by simp [Value.oneCell']) (by unfold maxLen; omega) (by omega) (by simp; omega) ?_; intro v' w1 hown' hgrow _; have HB1 := zA (hb.trans (appendG hrow hB hgrow)); have HO := zA hown'; clear hown' hgrow)
     go_roundw
     case rel =>
      obtain ⟨g', a1, a2, a3⟩ := HA.out _ c _ _ HC1.out HC2.out HO.out
      exact ⟨k + 1, g', by omega, by go_num, a1, a2, a3, HB1.out⟩
     case measure => simp [intOf]; omega
    ·have hbit2 : (Go.bits .and .u32 (bits / 2 ^ (k % 32)) 1 == 1) = false := by simpa using hbit
     clear hbit
     go_wp2_with (at_builtin; refine wpList_append_own _ rfl _ _ 85 rfl w.heap.size 5 i0 (.int .u8 0) 1 1 Tryz.underlying85 hi hz0 hz1 hz2 rfl (by decide) _ _ _ rfl (hrow.alloc _) ⟨wr.heap.size, 0, none⟩ 1 1 [.int .u8 ((s[k].toNat : Int))] rfl rfl (cell_one_new _ _ _) (by simp [Value.oneCell']) (by unfold maxLen; omega) (by omega) (by simp; omega) ?_; intro v' w1 hown' hgrow _; have HB1 := zA (hb.trans (appendG hrow hB hgrow)); have HO := zA hown'; clear hown' hgrow)
     go_roundw
     case rel =>
      obtain ⟨g', a1, a2, a3⟩ := HA.out _ s[k] _ _ rfl rfl HO.out
      exact ⟨k + 1, g', by omega, by go_num, a1, a2, a3, HB1.out⟩
     case measure => simp [intOf]; omega
   ·have hc' : ¬ 97 ≤ (s[k].toNat : Int) ∨ (97 ≤ (s[k].toNat : Int) ∧ ¬ (s[k].toNat : Int) ≤ 122) := by omega
    clear hc
    rcases hc' with c1 | ⟨c1, c2⟩
    ·go_wp2_with (at_builtin; refine wpList_append_own _ rfl _ _ 85 rfl w.heap.size 5 i0 (.int .u8 0) 1 1 Tryz.underlying85 hi hz0 hz1 hz2 rfl (by decide) _ _ _ rfl (hrow.alloc _) ⟨wr.heap.size, 0, none⟩ 1 1 [.int .u8 ((s[k].toNat : Int))] rfl rfl (cell_one_new _ _ _) (by simp [Value.oneCell']) (by unfold maxLen; omega) (by omega) (by simp; omega) ?_; intro v' w1 hown' hgrow _; have HB1 := zA (hb.trans (appendG hrow hB hgrow)); have HO := zA hown'; clear hown' hgrow)
     go_roundw
     case rel =>
      obtain ⟨g', a1, a2, a3⟩ := HA.out _ s[k] _ _ rfl rfl HO.out
      exact ⟨k + 1, g', by omega, by go_num, a1, a2, a3, HB1.out⟩
     case measure => simp [intOf]; omega
    ·go_wp2_with (at_builtin; refine wpList_append_own _ rfl _ _ 85 rfl w.heap.size 5 i0 (.int .u8 0) 1 1 Tryz.underlying85 hi hz0 hz1 hz2 rfl (by decide) _ _ _ rfl (hrow.alloc _) ⟨wr.heap.size, 0, none⟩ 1 1 [.int .u8 ((s[k].toNat : Int))] rfl rfl (cell_one_new _ _ _) (by simp [Value.oneCell']) (by unfold maxLen; omega) (by omega) (by simp; omega) ?_; intro v' w1 hown' hgrow _; have HB1 := zA (hb.trans (appendG hrow hB hgrow)); have HO := zA hown'; clear hown' hgrow)
     go_roundw
     case rel =>
      obtain ⟨g', a1, a2, a3⟩ := HA.out _ s[k] _ _ rfl rfl HO.out
      exact ⟨k + 1, g', by omega, by go_num, a1, a2, a3, HB1.out⟩
     case measure => simp [intOf]; omega
  ·obtain rfl : k = s.size := by omega
   have hT : s.data.toList.take s.size = s.data.toList := List.take_of_length_le (by rw [Array.length_toList]; exact Nat.le_refl _)
   rw [hT] at HG
   have hst := string_rowQ (by rw [hgl]; exact hrow)
   have HB := zA hb
   clear hrow hb hT
   go_wp2
   go_ret
   exact ⟨g, rfl, HG.out, hgl, HB.out⟩
end Go.Proofs.YtcliojeoindceaaGreatDoor
