/- Parts of the proof. -/
import Derived.Test.YtjgeadoncanheaaGreatDoorEmptiedN
import Derived.Test.YtjgeadoncanheaaGreatDoorLaidN
import Derived.Test.YtjgeadoncanheaaGreatDoorAttrWalkN
import Derived.Test.YtjgeadoncanheaaGreatDoorPartBaseN
import Derived.Test.YtjgeadoncanheaaGreatDoorQryArgsN
import Derived.Lib.OthersKept
import Derived.Lib.RuneCount
import Derived.Test.YtjgeadoncanheaaGreatDoorDocPartN
import Derived.Test.YtjgeadoncanheaaGreatDoorStyTellsN
set_option linter.unusedVariables false
set_option linter.unusedSimpArgs false
set_option maxHeartbeats 8000000
namespace Go.Proofs.YtjgeadoncanheaaGreatDoor
open Go.RowKit
open Go.Proofs.Qw
attribute [local go_sem] Oper.semAt_some
open _root_.Go.Lib renaming hid → zA
open _root_.Go.RowKit.Below renaming refl → zE, setCell → zF, alloc → zG
open _root_.Go renaming bodyPost_ret → zM
theorem DocPB.err {n : Nat} {x : Doc × Ps × Int} {w w' : World} {q : Ps} {e : Int} (hx : x = ([], q, e)) (hb : Below w.heap.size w w') (hn : n ≤ w.heap.size) : DocPB n x w (.returned (.tuple #[.slice none 0 0, .agg #[.int .i64 q.line, .int .i64 q.col], .int .i64 e])) w' := by
 subst hx;exact ⟨_, rfl, SliceR.nil _ _ _ _ _ _, hb.mono hn⟩
theorem DocPB.same {n : Nat} {x : Doc × Ps × Int} {w w' : World} {v : Value} {O : Doc} {q : Ps} (hx : x = (O, q, 0)) (hO : DocR true w (fun b => n ≤ b) v O) (hb : Below w.heap.size w w') (hn : n ≤ w.heap.size) : DocPB n x w (.returned (.tuple #[v, .agg #[.int .i64 q.line, .int .i64 q.col], .int .i64 0])) w' := by
 subst hx;exact ⟨_, rfl, hO.below hb, hb.mono hn⟩
set_option maxRecDepth 100000 in
theorem zID (Bs : Nat) (v : Value) (s : St) (n : Nat) (a : Option Addr) (c : Nat) (w : World) (hst : w.heap[Bs]? = some (.cells #[v, .int .i64 s.anc.line, .int .i64 s.anc.col, .int .i64 s.foc.line, .int .i64 s.foc.col, .int .i64 s.on, .int .i64 s.off] 26)) (h : DocR true w (fun b => n ≤ b) (.slice a (outS s).length c) (outS s)) (hn : n ≤ w.heap.size) (he : EnvT w) (hs : Small (outS s)) (hf : Fits (outS s)) :
  Calls Tryz.prog 121 #[.slice a (outS s).length c, posV (qU s).1, .pointer (some ⟨Bs, 0, none⟩)] w (DocPB n (zAK s) w) := by
 have HR : Hid (zAK s = if s.anc = s.foc then (if (kT (outS s) (qU s).1 1).2 = true then cutK (outS s) (qU s).1 (kT (outS s) (qU s).1 1).1 (qU s).1 else ([], (qU s).1, 7)) else (outS s, (qU s).1, 0)) := zA rfl;obtain ⟨O, hO⟩ : ∃ O, outS s = O := ⟨_, rfl⟩;obtain ⟨A, hA⟩ : ∃ A, (qU s).1 = A := ⟨_, rfl⟩;rw [hO] at h hs hf;rw [hO, hA] at HR ⊢;obtain ⟨W1, hW1, hB, hz, k0, k1⟩ := vA w (.int .i64 A.line) (.int .i64 A.col) (.int .i64 0) (.int .i64 0);have hs1 := hB.size;have kt := jG hB hst;have HB : Hid (∀ W, Below W1.heap.size W1 W → W.heap[w.heap.size]? = some (.cells #[.int .i64 A.line, .int .i64 A.col] 24) ∧ W.heap[w.heap.size + 1]? = some (.cells #[.int .i64 0, .int .i64 0] 24) ∧ W.heap[Bs]? = some (.cells #[v, .int .i64 s.anc.line, .int .i64 s.anc.col, .int .i64 s.foc.line, .int .i64 s.foc.col, .int .i64 s.on, .int .i64 s.off] 26)) := zA fun W hW => ⟨jG hW k0, jG hW k1, jG hW kt⟩;have hw0 : Below W1.heap.size W1 W1 := zE _ _;have HS : Hid (∀ W, Below W1.heap.size W1 W → Calls Tryz.prog 119 #[.slice a O.length c, .agg #[.int .i64 A.line, .int .i64 A.col], .int .i64 1] W fun e w' => e = .returned (.tuple #[.agg #[.int .i64 (kT O A 1).1.line, .int .i64 (kT O A 1).1.col], .bool (kT O A 1).2]) ∧ Below W.heap.size W w') := zA fun W hW => zFn _ O A 1 W w (fun b => n ≤ b) h.read (hB.trans (hW.mono hs1)) hs.1 hs.2.1 qV;have HD : Hid (∀ p W, Below W1.heap.size W1 W → Calls Tryz.prog 120 #[.slice a O.length c, .agg #[.int .i64 A.line, .int .i64 A.col], .agg #[.int .i64 p.line, .int .i64 p.col]] W (DocSaid (xI O A p) W)) := zA fun p W hW => zCA _ O A p W (fun b => n ≤ b) (h.below (hB.trans (hW.mono hs1))).read ((he.below hB).below hW) hs hf;have H := zA h;have H1 := zA hB;have HN := zA hn;have hg := zDd;have hq := fun (w : World) => zCH s.anc s.foc w;have HP : Hid (∀ p : Ps, posV p = .agg #[.int .i64 p.line, .int .i64 p.col]) := zA fun _ => rfl;rw [HP.out];obtain ⟨q, t, hqt⟩ : ∃ q t, kT O A 1 = (q, t) := ⟨_, _, rfl⟩;rw [hqt] at HR HS;simp only at HR HS;have HD := zA (fun W hW => HD.out q W hW);obtain ⟨p0, f0⟩ := blk k0
 by_cases hc : s.anc = s.foc
 ·rw [if_pos hc] at HR
  rw [decide_eq_true hc] at hq;cases t
  ·rw [if_neg qV] at HR
   clear h hB hc k0 k1 kt hst hn hO hA hs hf he hqt HD;go_enter Tryz.func121, Tryz.ntmps121;go_wp2_with (go_at_call 119; refine (HS.out _ hw0).mono ?_; rintro e w2 ⟨rfl, hst2⟩; have hb2 := jF hw0 hst2; obtain ⟨c0, d0⟩ := blk1 (HB.out _ hb2).1; obtain ⟨c1, d1⟩ := blk1 (HB.out _ hb2).2.1; obtain ⟨c2, d2⟩ := blk1 (HB.out _ hb2).2.2; have hz2 := hb2.size; have n1 : ¬ w2.heap.size = w.heap.size + 1 := qC; have n2 : ¬ w.heap.size + 1 = w2.heap.size := qC);go_region;go_wp2_with fail;have hfin := H1.out.trans (hb2.mono hs1);refine zM (kK rfl _ _ (w.heap.size + 1) (.int .i64 A.line) (.int .i64 A.col) rfl (by rw [xD]; simp [jL, qW, jH _ _ (HB.out _ hb2).2.1])) rfl ?_;exact DocPB.err HR.out (by ((with_reducible repeat' first | exact zE _ _ | assumption | refine zG ?_ ?_ _ | refine Below.drew ?_ | refine jN ?_ | refine zF ?_ ?_ _) <;> go_size)) HN.out
  ·rw [if_pos rfl] at HR
   have HX : Hid (cutK O A q A = ((xI O A q).1, A, (xI O A q).2)) := zA rfl;obtain ⟨D, er, hD⟩ : ∃ D er, xI O A q = (D, er) := ⟨_, _, rfl⟩;rw [hD] at HX HD;clear h hB hc k0 k1 kt hst hn hO hA hs hf he hqt hD;go_enter Tryz.func121, Tryz.ntmps121
   go_wp2_with (first
    | (go_at_call 119; refine (HS.out _ hw0).mono ?_; rintro e w2 ⟨rfl, hst2⟩; have hb2 := jF hw0 hst2; obtain ⟨c0, d0⟩ := blk1 (HB.out _ hb2).1; obtain ⟨c1, d1⟩ := blk1 (HB.out _ hb2).2.1; obtain ⟨c2, d2⟩ := blk1 (HB.out _ hb2).2.2; have hz2 := hb2.size; have n1 : ¬ w2.heap.size = w.heap.size + 1 := qC; have n2 : ¬ w.heap.size + 1 = w2.heap.size := qC)
    | (go_at_call 120; refine (HD.out _ (hb2.alloc hb2.size _)).mono ?_; intro e w4 hsaid; obtain ⟨v4, rfl, hv4, hst4⟩ := hsaid; have hb4 := jF (hb2.alloc hb2.size _) hst4; have HV4 := zA hv4; clear hv4; obtain ⟨q0, g0⟩ := blk (HB.out _ hb4).1; obtain ⟨q1, g1⟩ := blk (HB.out _ hb4).2.1))
   go_region;go_wp2_with fail;have hfin := H1.out.trans (hb4.mono hs1);refine zM (kK rfl _ _ (w.heap.size + 1) (.int .i64 A.line) (.int .i64 A.col) rfl (by rw [xD]; simp [jL, qW, (HB.out _ hb4).2.1])) rfl ?_;rw [HR.out, HX.out];have hv4 := HV4.out;have hn4 : n ≤ w.heap.size := HN.out;refine ⟨_, rfl, (SliceR.stable (jW _) hv4 zAR (fun b h _ => jJ)), ?_⟩;refine Below.mono ?_ HN.out
   ((with_reducible repeat' first | exact zE _ _ | assumption | refine zG ?_ ?_ _ | refine Below.drew ?_ | refine jN ?_ | refine zF ?_ ?_ _) <;> go_size)
 ·rw [if_neg hc] at HR
  rw [decide_eq_false hc] at hq;clear h hB hc k0 k1 kt hst hn hO hA hs hf he hqt HD;go_enter Tryz.func121, Tryz.ntmps121;go_wp2_with (go_at_call 119; refine (HS.out _ hw0).mono ?_; rintro e w2 ⟨rfl, hst2⟩; have hb2 := jF hw0 hst2; obtain ⟨c0, d0⟩ := blk1 (HB.out _ hb2).1; obtain ⟨c1, d1⟩ := blk1 (HB.out _ hb2).2.1; obtain ⟨c2, d2⟩ := blk1 (HB.out _ hb2).2.2; have hz2 := hb2.size; have n1 : ¬ w2.heap.size = w.heap.size + 1 := qC; have n2 : ¬ w.heap.size + 1 = w2.heap.size := qC);go_region;go_wp2_with fail;have hfin := H1.out.trans (hb2.mono hs1);refine zM (kK rfl _ _ (w.heap.size + 1) (.int .i64 A.line) (.int .i64 A.col) rfl (by rw [xD]; simp [jL, qW, jH _ _ (HB.out _ hb2).2.1])) rfl ?_;exact DocPB.same HR.out H.out (by ((with_reducible repeat' first | exact zE _ _ | assumption | refine zG ?_ ?_ _ | refine Below.drew ?_ | refine jN ?_ | refine zF ?_ ?_ _) <;> go_size)) HN.out
set_option maxRecDepth 100000 in
theorem zGM (v : Value) (s : St) (w : World) (S : Nat → Prop) (h : jE w S v s.lines) (he : EnvT w) (hs : Small s.lines) (hf : Fits s.lines) :
  Calls Tryz.prog 72 #[stV v s] w (StSaid (keyS s (zAK s)) w) := by
 obtain ⟨W1, hW1, hB, hz, k0, k1⟩ := xE w v s;have HB : Hid (∀ W, Below W1.heap.size W1 W → W.heap[w.heap.size]? = some (.cells #[v, .int .i64 s.anc.line, .int .i64 s.anc.col, .int .i64 s.foc.line, .int .i64 s.foc.col, .int .i64 s.on, .int .i64 s.off] 26) ∧ W.heap[w.heap.size + 1]? = some (.cells #[.slice none 0 0, .int .i64 0, .int .i64 0, .int .i64 0, .int .i64 0, .int .i64 0, .int .i64 0] 26)) := zA fun W hW => ⟨jG hW k0, jG hW k1⟩;have hs1 := hB.size;have H1 := zA hB
 have HC := zA (zBL v s 121 #[.pointer (some ⟨w.heap.size, 0, none⟩)] (zAK s) W1 S (h.below (jW _) hB) (he.below hB) hs hf (enters_of Tryz.func121 zT rfl)
  (fun hm n W a c hW h1 h2 h3 => zID (w.heap.size) v s n a c W (jG hW k0) h3 h2 ((he.below hB).below hW) (uT (vR hm).1).1 (uT (vR hm).1).2))
 obtain ⟨X, hX⟩ : ∃ X, keyS s (zAK s) = X := ⟨_, rfl⟩;rw [hX] at HC ⊢;obtain ⟨p0, f0⟩ := blk k0;obtain ⟨p1, f1⟩ := blk k1;obtain ⟨va, vc, rfl⟩ := h.slice;clear h he hs hf hX k0 k1 hB;go_enter Tryz.func72, Tryz.ntmps72;go_wp2_with (go_at_call 107; refine HC.out.mono ?_; intro e w2 hsaid; obtain ⟨v2, rfl, hv2, hb2⟩ := hsaid; obtain ⟨a2, c2, rfl⟩ := hv2.slice; have HV2 := zA hv2; clear hv2; obtain ⟨q2, g2⟩ := blk (HB.out _ hb2).2);refine zM (jQ rfl _ _ (w.heap.size + 1) (.slice a2 X.1.lines.length c2) (.int .i64 X.1.anc.line) (.int .i64 X.1.anc.col) (.int .i64 X.1.foc.line) (.int .i64 X.1.foc.col) (.int .i64 X.1.on) (.int .i64 X.1.off) (.int .i64 X.2) rfl rfl zDx) rfl ?_;have hfin := H1.out.trans (hb2.mono hs1);have hv2 := HV2.out;exact ⟨_, rfl, (SliceR.stable (jW _) hv2 zAR (fun b h _ => jJ)), by ((with_reducible repeat' first | exact zE _ _ | assumption | refine zG ?_ ?_ _ | refine Below.drew ?_ | refine jN ?_ | refine zF ?_ ?_ _) <;> go_size)⟩
end Go.Proofs.YtjgeadoncanheaaGreatDoor
namespace Go.Proofs.Qw
open Go.RowKit Go.Proofs.YtjgeadoncanheaaGreatDoor
def yO (c : Int) : Int × Bool := if c = 9 ∨ c = 12 ∨ c = 13 then (32, true) else if c = 10 then (c, true) else (c, !(zAd c == 1))
theorem zHL (c : Int) : (if (yO c).2 = true then some (yO c).1 else none) = zCe c := by
 unfold yO zCe
 split
 ·rfl
 ·split
  ·rename_i h; subst h; rfl
  ·by_cases h : zAd c = 1
   ·rw [if_pos h]; simp [h]
   ·rw [if_neg h]; simp [h]
end Go.Proofs.Qw
namespace Go.Proofs.YtjgeadoncanheaaGreatDoor
open Go.RowKit
open Go.Proofs.Qw
attribute [local go_sem] Oper.semAt_some
open _root_.Go.Lib renaming hid → zA
open _root_.Nat renaming le_refl → zC
open _root_.Array renaming getElem?_eq_some_iff → zL
open _root_.Go.Proofs.Tryz renaming prog → zV
open _root_.Go.Proofs.Qw renaming jV → qB
theorem zFF : RowT zV 117 21 1 := RowT.mk' (y := 4) Tryz.underlying117 zT qV (z := .int .i32 0) qV
theorem zKM : Elt 21 1 (rdOf zBY) := zCd _ qV (fun _ => rfl) (fun x u hu => by simp [zBY] at hu; subst hu; rfl)
theorem zJk (r : Int) : ∀ u ∈ [Value.int .i32 r], u.oneCell' = true := fun u hu => by simp at hu; subst hu; rfl
theorem zJg (c : Int) (w : World) :
  Calls zV 166 #[.int .i32 c] w fun e w' => e = .returned (.tuple #[.int .i32 (yO c).1, .bool (yO c).2]) ∧ w' = w := by
 have HC := zA (zFh c w)
 by_cases h9 : c = 9
 ·subst h9
  clear HC;go_enter Tryz.func166, Tryz.ntmps166;go_wp2_with fail;go_ret2;rw [show yO 9 = (32, true) from if_pos qV];exact ⟨rfl, rfl⟩
 by_cases h12 : c = 12
 ·subst h12
  clear HC;go_enter Tryz.func166, Tryz.ntmps166;go_wp2_with fail;go_ret2;rw [show yO 12 = (32, true) from if_pos qV];exact ⟨rfl, rfl⟩
 by_cases h13 : c = 13
 ·subst h13
  clear HC;go_enter Tryz.func166, Tryz.ntmps166;go_wp2_with fail;go_ret2;rw [show yO 13 = (32, true) from if_pos qV];exact ⟨rfl, rfl⟩
 by_cases h10 : c = 10
 ·subst h10
  clear HC;go_enter Tryz.func166, Tryz.ntmps166;go_wp2_with fail;go_ret2;rw [show yO 10 = (10, true) from (if_neg qV).trans (if_pos rfl)];exact ⟨rfl, rfl⟩
 have HR : Hid (yO c = (c, !(zAd c == 1))) := zA (by unfold yO; rw [if_neg qC, if_neg h10]);have b9 : (c == 9) = false := by simpa using h9
 have b12 : (c == 12) = false := by simpa using h12
 have b13 : (c == 13) = false := by simpa using h13
 have b10 : (c == 10) = false := by simpa using h10
 clear h9 h12 h13 h10
 generalize zAd c = k at *
 go_enter Tryz.func166, Tryz.ntmps166;go_wp2_with (go_at_call 215; refine HC.out.mono ?_; rintro e w' ⟨rfl, rfl⟩);go_ret2;rw [HR.out];exact ⟨rfl, rfl⟩
theorem zDH (s : ByteArray) : ∀ (f pos : Nat), (xH s f pos).length ≤ f
 | 0, _ => zC _
 | f + 1, pos => by
  unfold xH
  split
  ·have := zDH s f (pos + (Utf8.decode s pos).2)
   rw [List.length_cons]; omega
  ·simp
theorem zCz (s : ByteArray) : (yW s).length ≤ s.size := zDH s _ _
set_option maxRecDepth 100000 in
theorem zKq (s : ByteArray) (g : Nat) (F : Int → Int × Bool) (eg : ∀ args w, (callFunc g args).run zV w = .ok (.enter g args) w)
  (hF : ∀ c w, Calls zV g #[.int .i32 c] w fun e w' => e = .returned (.tuple #[.int .i32 (F c).1, .bool (F c).2]) ∧ w' = w) (w : World) (hs : s.size ≤ 10000000) :
  Calls zV 165 #[.string s, .func (.func g) #[] #[]] w fun e w' => ∃ v, e = .returned v ∧ zBr true w' (fun b => w.heap.size ≤ b) v ((yW s).filterMap fun c => if (F c).2 = true then some (F c).1 else none) ∧ Below w.heap.size w w' := by
 obtain ⟨G, hG⟩ : ∃ G : Int → Option Int, (fun c => if (F c).2 = true then some (F c).1 else none) = G := ⟨_, rfl⟩;have HG : Hid (∀ c, G c = if (F c).2 = true then some (F c).1 else none) := zA fun c => by rw [← hG]
 rw [hG];have HF := zA hF;clear hG hF;go_enter Tryz.func165, Tryz.ntmps165;go_wp2_with fail;go_loopw [5] (fun l wr => ∃ (pos fuel : Nat) (acc : List Int), Hid (zBr true wr (fun b => w.heap.size + 1 ≤ b) l acc) ∧ wr.heap[w.heap.size]? = some (.stringIter s pos) ∧ Hid (Below w.heap.size w wr) ∧ Hid (acc ++ (xH s fuel pos).filterMap G = (yW s).filterMap G) ∧ s.size ≤ pos + fuel) (fun _ wr => s.size - wr.iterPos w.heap.size)
 case atStart => exact ⟨0, s.size, [], zA (SliceR.nil _ _ _ _ _ _), World.iter_heap w s 0, zA ((Below.refl _ _).alloc (zC _) _), zA rfl, by omega⟩
 case round =>
  obtain ⟨pos, fuel, acc, HO, hit, HB, HA, hfu⟩ := hrel;have hsz : w.heap.size < wr.heap.size := (zL.1 hit).1
  by_cases hp : pos < s.size
  ·have hwd := Lib.decode_width_pos s pos hp
   have hd1 := decode_le s pos;have hnx : ∀ ty, (Instr.next (.pointer (some ⟨w.heap.size, 0, none⟩)) true ty).run zV wr = .ok (.tuple #[.bool true, .int .i64 pos, .int .i32 (Utf8.decode s pos).1]) (wr.iterAt w.heap.size s (pos + (Utf8.decode s pos).2)) := fun ty => Lib.run_next_any_at wr w.heap.size s pos ty hit hp;have hit2 := Lib.iterAt_heap wr w.heap.size s pos (pos + (Utf8.decode s pos).2) hit;have hbw2 := Lib.below_iterAt HB.out (k := w.heap.size) (zC _) s (pos + (Utf8.decode s pos).2);have hsz2 : (wr.iterAt w.heap.size s (pos + (Utf8.decode s pos).2)).heap.size = wr.heap.size := Lib.iterAt_size _ _ _ _;have HO2 := zA (SliceR.stable (w' := wr.iterAt w.heap.size s (pos + (Utf8.decode s pos).2)) (S' := fun b => w.heap.size + 1 ≤ b) (qB zBY) HO.out (Keeps.only (b := w.heap.size) hsz2 (fun d hd => Lib.iterAt_other _ _ _ _ _ hd) qE) (fun _ h _ => h));obtain ⟨f, rfl⟩ : ∃ f, fuel = f + 1 := ⟨fuel - 1, by omega⟩;have HA2 : Hid (acc ++ (((Utf8.decode s pos).1 : Int) :: xH s f (pos + (Utf8.decode s pos).2)).filterMap G = (yW s).filterMap G) := zA (by have := HA.out; unfold xH at this; rw [if_pos hp] at this; exact this);obtain ⟨wi, hwi⟩ : ∃ wi, wr.iterAt w.heap.size s (pos + (Utf8.decode s pos).2) = wi := ⟨_, rfl⟩;rw [hwi] at hnx hit2 hbw2 hsz2 HO2;obtain ⟨c, hcc⟩ : ∃ c : Int, ((Utf8.decode s pos).1 : Int) = c := ⟨_, rfl⟩;rw [hcc] at hnx HA2;obtain ⟨pos', hpp⟩ : ∃ pos', pos + (Utf8.decode s pos).2 = pos' := ⟨_, rfl⟩;have hpl : pos + 1 ≤ pos' := by omega
   rw [hpp] at hit2 HA2;obtain ⟨r, t, hrt⟩ : ∃ r t, F c = (r, t) := ⟨_, _, rfl⟩
   have HFc : Hid (∀ W, Calls zV g #[.int .i32 c] W fun e w' => e = .returned (.tuple #[.int .i32 r, .bool t]) ∧ w' = W) := zA fun W => by
    have := HF.out c W;rw [hrt] at this;exact this
   have hGc := HG.out c;rw [hrt] at hGc;have hm1 : (wi.iterPos w.heap.size) = pos' := by simp only [World.iterPos, hit2]
   have hm0 : (wr.iterPos w.heap.size) = pos := by simp only [World.iterPos, hit]
   have HB2 := zA hbw2;have HIT := zA hit2;have hlw : w.heap.size < wi.heap.size := (zL.1 hit2).1;have HM := zA (And.intro hm0 hm1);clear hit hit2 hbw2 HB HA HO HF HG hcc hpp hwi hrt hd1 hwd hm0 hm1 hsz2;cases t
   ·have HA3 : Hid (acc ++ (xH s f pos').filterMap G = (yW s).filterMap G) := zA (by have := HA2.out; rw [List.filterMap_cons, hGc] at this; exact this)
    clear hGc;go_wp2_with (go_at_fn g; refine (HFc.out _).mono ?_; rintro e w1 ⟨rfl, rfl⟩);go_roundw
    case rel => exact ⟨pos', f, acc, HO2, HIT.out, HB2, HA3, by omega⟩
    case measure => rw [HM.out.1, HM.out.2]; omega
   ·have HA3 : Hid ((acc ++ [r]) ++ (xH s f pos').filterMap G = (yW s).filterMap G) := zA (by have := HA2.out; rw [List.filterMap_cons, hGc] at this; simpa using this)
    have HL : Hid (acc.length + 1 ≤ 10000000) := zA (by
     have h1 := congrArg List.length HA3.out;have h2 := List.length_filterMap_le G (yW s);have h3 := zCz s;simp only [List.length_append, List.length_singleton] at h1
     omega)
    clear hGc
    go_wp2_with (first
     | (go_at_fn g; refine (HFc.out _).mono ?_; rintro e w1 ⟨rfl, rfl⟩)
     | (at_builtin; refine uO _ rfl _ _ 117 117 rfl zFF zKM (w.heap.size + 1) _ _ (xs := acc) (ys := [r]) (news := [.int .i32 r]) rfl rfl (SliceR.below (qB _) HO2.out ((Below.refl _ _).alloc (zC _) _)) jB (zAH zFF _ _ rfl (zJk r) 1 rfl) (NewsR.one rfl rfl) (by have := HL.out; simp only [List.length_singleton]; omega) ?_; intro v' w2 hR hB' _ _; have HR := zA hR; have HB' := zA hB'; clear hR hB'))
    have hi2 := (HB'.out.block w.heap.size (Nat.lt_succ_self _)).trans (jH _ _ HIT.out);go_roundw
    case rel => exact ⟨pos', f, acc ++ [r], HR, hi2, zA ((HB2.out.alloc HB2.out.size _).trans (HB'.out.mono (Nat.le_succ _))), HA3, by omega⟩
    case measure => rw [HM.out.1]; simp only [World.iterPos, hi2]; omega
  ·have hnx : ∀ ty, (Instr.next (.pointer (some ⟨w.heap.size, 0, none⟩)) true ty).run zV wr = .ok (.tuple #[.bool false]) wr := fun ty => Lib.run_next_end_at wr w.heap.size s pos ty hit hp
   have HA2 : Hid (acc = (yW s).filterMap G) := zA (by
    have := HA.out;cases fuel with
    | zero => simpa [xH] using this
    | succ f => unfold xH at this; rw [if_neg hp] at this; simpa using this)
   clear HF HG HA hit;go_wp2_with fail;go_ret;refine ⟨_, rfl, ?_, HB.out⟩;rw [← HA2.out];exact SliceR.stable (qB _) HO.out (Keeps.refl _ _) (fun b h _ => Nat.le_of_succ_le h)
theorem zFg (s : ByteArray) (w : World) (hs : s.size ≤ 10000000) :
  Calls zV 109 #[.string s] w fun e w' => ∃ v, e = .returned v ∧ zBr true w' (fun b => w.heap.size ≤ b) v (yQ s) ∧ Below w.heap.size w w' := by
 have HE := zA (zKq s 166 yO (enters_of Tryz.func166 zT rfl) zJg w hs);have e : (fun c => if (yO c).2 = true then some (yO c).1 else none) = zCe := funext zHL;rw [e] at HE;clear e;go_enter Tryz.func109, Tryz.ntmps109;go_wp2_with (go_at_call 165; refine HE.out.mono ?_; rintro e w2 ⟨v, rfl, hv, hb⟩);go_ret;exact ⟨_, rfl, hv, hb⟩
set_option maxRecDepth 100000 in
theorem zIb (s : ByteArray) (b : Int) (h : List UInt8) (w : World) (hs : s.size ≤ 10000000) :
  Calls zV 111 #[.string s, .int .i64 b, .string ⟨h.toArray⟩] w fun e w' => ∃ v, e = .returned v ∧ jC true w' (fun b => w.heap.size ≤ b) v (xT (yQ s) b h) ∧ Below w.heap.size w w' := by
 have HRu := zA (zFg s w hs);have hln : (yQ s).length ≤ s.size := Nat.le_trans (List.length_filterMap_le _ _) (zCz s);obtain ⟨d, hd⟩ : ∃ d, yQ s = d := ⟨_, rfl⟩;rw [hd] at HRu hln ⊢;clear hd;go_enter Tryz.func111, Tryz.ntmps111;go_wp2_with (go_at_call 109; refine HRu.out.mono ?_; rintro e w2 ⟨v2, rfl, hv2, hb2⟩; obtain ⟨a2, c2, rfl, hc2, hm2, hx2⟩ := zHC hv2; have HX := zA hx2; clear hv2 hx2);have HW2 := zA hb2;unfold maxLen at hm2;clear hb2;go_loopw [7, 13] (fun out z wr => ∃ k : Nat, k ≤ d.length ∧ z = .int .i64 k ∧ Hid (jC true wr (fun b => w2.heap.size ≤ b) out (xT (d.take k) b h)) ∧ Below w2.heap.size w2 wr) (fun _ z _ => d.length - (intOf z).toNat)
 case atStart => exact ⟨0, Nat.zero_le _, rfl, zA (SliceR.nil _ _ _ _ _ _), Below.refl _ _⟩
 case round =>
  obtain ⟨k, hk, rfl, HO, hb⟩ := hrel
  by_cases hlt : k < d.length
  ·obtain ⟨x, hx, _⟩ := jO d k hlt
   obtain ⟨b1, o1, rfl, hz1, hcell⟩ := HX.out k x hx;have hcl := (hb.cell hz1).trans hcell;have HT : Hid (xT (d.take (k + 1)) b h = xT (d.take k) b h ++ [⟨x, b, h⟩]) := zA (by unfold xT; rw [xQ hx, List.map_append]; rfl);have HL : Hid ((xT (d.take k) b h).length ≤ 10000000) := zA (by unfold xT; rw [List.length_map, List.length_take]; omega);have i0 : (0 : Int) ≤ (k : Int) := Int.natCast_nonneg _;have i1 : (k : Int) < (d.length : Int) := by omega
   have hbs := hb.size;clear hx hz1 hcell;go_wp2_with (at_builtin; refine uO _ rfl _ _ 44 44 rfl uE uF w2.heap.size _ _ (xs := xT (d.take k) b h) (ys := [(⟨x, b, h⟩ : Cel)]) (news := [.int .i32 x, .int .i64 b, .string ⟨h.toArray⟩]) rfl rfl (SliceR.below (qB _) HO.out ((Below.refl _ _).alloc (zC _) _)) jB (zAH uE _ _ rfl (fun u hu => by simp at hu; rcases hu with rfl | rfl | rfl <;> rfl) 1 rfl) (NewsR.one rfl rfl) (by have := HL.out; simp only [List.length_singleton]; omega) ?_; intro v' w4 hR hB' _ _; rw [← HT.out] at hR; have HR := zA hR; have HB' := zA hB'; clear hR hB');go_roundw
   case rel => exact ⟨k + 1, hlt, by go_num, HR, (hb.alloc hbs _).trans HB'.out⟩
   case measure => simp [intOf]; omega
  ·obtain rfl : k = d.length := by omega
   have HBB := zA hb;clear hb;go_wp2_with fail;go_ret;have h9 := HO.out;rw [List.take_length] at h9;exact ⟨_, rfl, SliceR.stable (qB _) h9 (Keeps.refl _ _) (fun b h _ => Nat.le_trans HW2.out.size h), jF HW2.out HBB.out⟩
end Go.Proofs.YtjgeadoncanheaaGreatDoor
namespace Go.Proofs.Qw
open Go.RowKit Go.Proofs.YtjgeadoncanheaaGreatDoor
theorem zIH {d : Doc} {a b : Ps} (h : kF d a b = true) : flat (yI d a b).1 = cellsD d a b := by
 unfold yI cellsD flat;rw [if_pos h, if_pos h];exact zIG d _
end Go.Proofs.Qw
namespace Go.Proofs.YtjgeadoncanheaaGreatDoor
open Go.RowKit
open Go.Proofs.Qw
attribute [local go_sem] Oper.semAt_some
open _root_.Go.Lib renaming hid → zA
open _root_.And renaming intro → zB
open _root_.Go.RowKit.Below renaming refl → zE, setCell → zF, alloc → zG, drew → zH
open _root_.Go.BigFrame renaming wpQuiet_want → zI
open _root_.List renaming getElem?_eq_some_iff → zK
open _root_.Array renaming getElem?_eq_some_iff → zL
open _root_.Go renaming bodyPost_ret → zM
open _root_.Int renaming natCast_nonneg → zR
open _root_.Go.Act renaming put → zU
open _root_.Go.Proofs.Tryz renaming prog → zV
open _root_.Go.Proofs.YtjgeadoncanheaaGreatDoor renaming jF → zW, jG → zX, jN → qQ, jL → qR
open _root_.Go.Proofs.Qw renaming jW → zZ, kR → qK
open _root_.Go.Proofs.Qw.SliceR renaming stable → qG
open _root_.Go.Proofs.Qw.Keeps renaming refl → qM, alloc → qN, drew → qO, set → qP
theorem zBy (v : Value) (d : List Int) (t : Int) (w : World) (S : Nat → Prop) (h : jI false w S v d) :
  Calls zV 181 #[v, .int .i64 t] w fun e w' => e = .returned (.bool (d.any fun x => x == t)) ∧ w' = w := by
 have HC : Hid (Calls zV 221 #[v, .int .i64 t] w fun e w' => ∃ r : Int, e = .returned (.int .i64 r) ∧ decide (0 ≤ r) = (d.any fun x => x == t) ∧ w' = w) := zA (by
  obtain ⟨a, c, rfl, hc, hm, hx⟩ := zAz h;have HX := zA hx;clear hx h;unfold maxLen at hm;go_enter Tryz.func221, Tryz.ntmps221;go_wp2_with fail;go_loopw [5, 8] (fun _ i wr => ∃ k : Nat, k ≤ d.length ∧ i = .int .i64 k ∧ Hid ((d.any fun x => x == t) = ((d.drop k).any fun x => x == t)) ∧ w = wr) (fun _ i _ => d.length - (intOf i).toNat)
  case atStart => exact ⟨0, Nat.zero_le _, rfl, zA rfl, rfl⟩
  case round =>
   obtain ⟨k, hk, rfl, HK, rfl⟩ := hrel;have k0 : (0 : Int) ≤ (k : Int) := zR _
   by_cases hlt : k < d.length
   ·obtain ⟨x, hx, hd⟩ := jO d k hlt
    obtain ⟨b, o, rfl, hz, c0⟩ := HX.out k x hx;rw [hd, List.any_cons] at HK;cases hq : x == t
    ·have hq' : (t == x) = false := by rw [Bool.beq_comm]; exact hq
     rw [hq, Bool.false_or] at HK;clear hx hd;go_wp2_with fail;go_roundw
     case rel => exact ⟨k + 1, hlt, by go_num, HK, by simp⟩
     case measure => simp [intOf]; omega
    ·have hq' : (t == x) = true := by rw [Bool.beq_comm]; exact hq
     rw [hq, Bool.true_or] at HK;clear hx hd;go_wp2_with fail;go_ret;exact ⟨k, rfl, by rw [HK.out]; exact decide_eq_true k0, rfl⟩
   ·obtain rfl : k = d.length := by omega
    rw [List.drop_length] at HK;go_wp2_with fail;go_ret;exact ⟨-1, rfl, by rw [HK.out]; rfl, rfl⟩)
 obtain ⟨a, c, rfl⟩ := h.slice;clear h
 generalize (d.any fun x => x == t) = R at *
 go_enter Tryz.func181, Tryz.ntmps181;go_wp2_with (go_at_call 221; refine HC.out.mono ?_; rintro e w1 ⟨r, rfl, hr, rfl⟩; have HRR := zA hr; clear hr);go_ret;rw [← HRR.out];exact ⟨rfl, rfl⟩
theorem zBW (t : Int) : ([1, 2, 4, 8].any fun x => x == t) = four t := by
 unfold four;rw [Bool.eq_iff_iff];simp only [List.any_cons, List.any_nil, Bool.or_eq_true, beq_iff_eq, decide_eq_true_eq, Bool.or_false]
 omega
set_option maxRecDepth 100000 in
theorem zGh (Bt : Nat) (v : Value) (d : Doc) (a b : Ps) (t : Int) (w : World) (S : Nat → Prop) (h : jE w S v d) (he : EnvT w) (hs : Small d) (hf : Fits d) (ht : w.heap[Bt]? = some (.cells #[.int .i64 t] 3)) :
  Calls zV 183 #[v, posV a, posV b, .pointer (some ⟨Bt, 0, none⟩)] w (DocSaid (if allL (cellsD d a b) t = true then setD 0 t d a b else setD t 0 d a b) w) := by
 obtain ⟨W1, hW1, hB, hz, k0, k1⟩ := vA w (.int .i64 a.line) (.int .i64 a.col) (.int .i64 b.line) (.int .i64 b.col);have kt := zX hB ht;have HB : Hid (∀ W, Below W1.heap.size W1 W → W.heap[w.heap.size]? = some (.cells #[.int .i64 a.line, .int .i64 a.col] 24) ∧ W.heap[w.heap.size + 1]? = some (.cells #[.int .i64 b.line, .int .i64 b.col] 24) ∧ W.heap[Bt]? = some (.cells #[.int .i64 t] 3)) := zA fun W hW => ⟨zX hW k0, zX hW k1, zX hW kt⟩;have hs1 := hB.size;have H1 := zA hB;have hw0 : Below W1.heap.size W1 W1 := zE _ _;have HV : Hid (∀ W, Below W1.heap.size W1 W → jE W S v d) := zA fun W hW => h.below (zZ _) (hB.trans (hW.mono hs1));have HE : Hid (∀ W, Below W1.heap.size W1 W → EnvT W) := zA fun W hW => (he.below hB).below hW
 have HAl : Hid (∀ W, Below W1.heap.size W1 W → Calls zV 52 #[v, .agg #[.int .i64 a.line, .int .i64 a.col], .agg #[.int .i64 b.line, .int .i64 b.col], .int .i64 t] W fun e w' => e = .returned (.bool (allL (cellsD d a b) t)) ∧ Below W.heap.size W w') := zA fun W hW => by
  have := zEM v d a b t W S _ rfl (HV.out W hW) (HE.out W hW) hs;rw [zEQ] at this;exact this
 have HSe : Hid (∀ (x y : Int) W, Below W1.heap.size W1 W → Calls zV 130 #[v, .agg #[.int .i64 a.line, .int .i64 a.col], .agg #[.int .i64 b.line, .int .i64 b.col], .int .i64 x, .int .i64 y] W (DocSaid (setD x y d a b) W)) := zA fun x y W hW => zEK v d a b x y W S (HV.out W hW) (HE.out W hW) hs hf;have HP : Hid (∀ p : Ps, posV p = .agg #[.int .i64 p.line, .int .i64 p.col]) := zA fun _ => rfl;obtain ⟨p0, f0⟩ := blk k0;obtain ⟨p1, f1⟩ := blk k1;obtain ⟨p2, f2⟩ := blk kt;obtain ⟨va, vc, rfl⟩ := h.slice;rw [HP.out a, HP.out b]
 generalize allL (cellsD d a b) t = r at *
 clear h he hs hf k0 k1 kt ht hB;cases r
 ·rw [if_neg qE]
  go_enter Tryz.func183, Tryz.ntmps183
  go_wp2_with (first
   | (go_at_call 52; refine (HAl.out _ hw0).mono ?_; rintro e w2 ⟨rfl, hst2⟩; have hb2 := zW hw0 hst2; obtain ⟨q0, g0⟩ := blk (HB.out _ hb2).1; obtain ⟨q1, g1⟩ := blk (HB.out _ hb2).2.1; obtain ⟨q2, g2⟩ := blk (HB.out _ hb2).2.2)
   | (go_at_call 130; refine (HSe.out _ _ _ hb2).mono ?_; intro e w3 hsaid; have hsaid := DocSaid.from hsaid (H1.out.trans (hb2.mono hs1)); obtain ⟨v3, rfl, hv3, hb3⟩ := hsaid))
  go_ret2;exact ⟨_, rfl, hv3, hb3⟩
 ·rw [if_pos rfl]
  go_enter Tryz.func183, Tryz.ntmps183
  go_wp2_with (first
   | (go_at_call 52; refine (HAl.out _ hw0).mono ?_; rintro e w2 ⟨rfl, hst2⟩; have hb2 := zW hw0 hst2; obtain ⟨q0, g0⟩ := blk (HB.out _ hb2).1; obtain ⟨q1, g1⟩ := blk (HB.out _ hb2).2.1; obtain ⟨q2, g2⟩ := blk (HB.out _ hb2).2.2)
   | (go_at_call 130; refine (HSe.out _ _ _ hb2).mono ?_; intro e w3 hsaid; have hsaid := DocSaid.from hsaid (H1.out.trans (hb2.mono hs1)); obtain ⟨v3, rfl, hv3, hb3⟩ := hsaid))
  go_ret2;exact ⟨_, rfl, hv3, hb3⟩
set_option maxRecDepth 100000 in
theorem zGR (Bt : Nat) (v : Value) (d : Doc) (a b : Ps) (hr : List UInt8) (w : World) (S : Nat → Prop) (h : jE w S v d) (he : EnvT w) (hs : Small d) (hf : Fits d) (hh : hr.length ≤ 1000000) (ht : w.heap[Bt]? = some (.cells #[.string ⟨hr.toArray⟩] 9)) :
  Calls zV 125 #[v, posV a, posV b, .pointer (some ⟨Bt, 0, none⟩)] w (DocSaid (if xR hr = true then vC hr d a b else ([], 1)) w) := by
 obtain ⟨W1, hW1, hB, hz, k0, k1⟩ := vA w (.int .i64 a.line) (.int .i64 a.col) (.int .i64 b.line) (.int .i64 b.col);have kt := zX hB ht;have HB : Hid (∀ W, Below W1.heap.size W1 W → W.heap[w.heap.size]? = some (.cells #[.int .i64 a.line, .int .i64 a.col] 24) ∧ W.heap[w.heap.size + 1]? = some (.cells #[.int .i64 b.line, .int .i64 b.col] 24) ∧ W.heap[Bt]? = some (.cells #[.string ⟨hr.toArray⟩] 9)) := zA fun W hW => ⟨zX hW k0, zX hW k1, zX hW kt⟩;have hs1 := hB.size;have H1 := zA hB;have hw0 : Below W1.heap.size W1 W1 := zE _ _;have HV : Hid (∀ W, Below W1.heap.size W1 W → jE W S v d) := zA fun W hW => h.below (zZ _) (hB.trans (hW.mono hs1));have HE : Hid (∀ W, Below W1.heap.size W1 W → EnvT W) := zA fun W hW => (he.below hB).below hW;have HAl : Hid (∀ W, Below W1.heap.size W1 W → Calls zV 126 #[.string ⟨hr.toArray⟩] W fun e w' => e = .returned (.bool (xR hr)) ∧ Below W.heap.size W w') := zA fun W hW => zCL ⟨hr.toArray⟩ W (HE.out W hW) zDv;have HSe : Hid (∀ W, Below W1.heap.size W1 W → Calls zV 127 #[v, .agg #[.int .i64 a.line, .int .i64 a.col], .agg #[.int .i64 b.line, .int .i64 b.col], .string ⟨hr.toArray⟩] W (DocSaid (vC hr d a b) W)) := zA fun W hW => zEl v d a b hr W S (HV.out W hW) (HE.out W hW) hs hf hh;have HP : Hid (∀ p : Ps, posV p = .agg #[.int .i64 p.line, .int .i64 p.col]) := zA fun _ => rfl;obtain ⟨p0, f0⟩ := blk k0;obtain ⟨p1, f1⟩ := blk k1;obtain ⟨p2, f2⟩ := blk kt;obtain ⟨va, vc, rfl⟩ := h.slice;rw [HP.out a, HP.out b]
 generalize xR hr = r at *
 clear h he hs hf hh k0 k1 kt ht hB;cases r
 ·rw [if_neg qE]
  go_enter Tryz.func125, Tryz.ntmps125;go_wp2_with ((go_at_call 126; refine (HAl.out _ hw0).mono ?_; rintro e w2 ⟨rfl, hst2⟩; have hb2 := zW hw0 hst2; skip));go_ret2;exact ⟨_, rfl, SliceR.nil _ _ _ _ _ _, H1.out.trans (hb2.mono hs1)⟩
 ·rw [if_pos rfl]
  go_enter Tryz.func125, Tryz.ntmps125
  go_wp2_with (first
   | (go_at_call 126; refine (HAl.out _ hw0).mono ?_; rintro e w2 ⟨rfl, hst2⟩; have hb2 := zW hw0 hst2; obtain ⟨q0, g0⟩ := blk (HB.out _ hb2).1; obtain ⟨q1, g1⟩ := blk (HB.out _ hb2).2.1; obtain ⟨q2, g2⟩ := blk (HB.out _ hb2).2.2)
   | (go_at_call 127; refine (HSe.out _ hb2).mono ?_; intro e w3 hsaid; have hsaid := DocSaid.from hsaid (H1.out.trans (hb2.mono hs1)); obtain ⟨v3, rfl, hv3, hb3⟩ := hsaid))
  go_ret2;exact ⟨_, rfl, hv3, hb3⟩
set_option maxRecDepth 100000 in
theorem zGw (v : Value) (d : Doc) (a b : Ps) (w : World) (S : Nat → Prop) (h : jE w S v d) (he : EnvT w) (hs : Small d) (hf : Fits d) :
  Calls zV 129 #[v, posV a, posV b] w (DocSaid (if vO (cellsD d a b) 15 = true then setD 0 15 d a b else ([], 7)) w) := by
 obtain ⟨W1, hW1, hB, hz, k0, k1⟩ := vA w (.int .i64 a.line) (.int .i64 a.col) (.int .i64 b.line) (.int .i64 b.col);have HB : Hid (∀ W, Below W1.heap.size W1 W → W.heap[w.heap.size]? = some (.cells #[.int .i64 a.line, .int .i64 a.col] 24) ∧ W.heap[w.heap.size + 1]? = some (.cells #[.int .i64 b.line, .int .i64 b.col] 24)) := zA fun W hW => ⟨zX hW k0, zX hW k1⟩;have hs1 := hB.size;have H1 := zA hB;have hw0 : Below W1.heap.size W1 W1 := zE _ _;have HV : Hid (∀ W, Below W1.heap.size W1 W → jE W S v d) := zA fun W hW => h.below (zZ _) (hB.trans (hW.mono hs1));have HE : Hid (∀ W, Below W1.heap.size W1 W → EnvT W) := zA fun W hW => (he.below hB).below hW
 have HAl : Hid (∀ W, Below W1.heap.size W1 W → Calls zV 51 #[v, .agg #[.int .i64 a.line, .int .i64 a.col], .agg #[.int .i64 b.line, .int .i64 b.col], .int .i64 15] W fun e w' => e = .returned (.bool (vO (cellsD d a b) 15)) ∧ Below W.heap.size W w') := zA fun W hW => by
  have := zEj v d a b 15 W S _ rfl (HV.out W hW) (HE.out W hW) hs;rw [zEP] at this;exact this
 have HSe : Hid (∀ W, Below W1.heap.size W1 W → Calls zV 130 #[v, .agg #[.int .i64 a.line, .int .i64 a.col], .agg #[.int .i64 b.line, .int .i64 b.col], .int .i64 0, .int .i64 15] W (DocSaid (setD 0 15 d a b) W)) := zA fun W hW => zEK v d a b 0 15 W S (HV.out W hW) (HE.out W hW) hs hf;have HP : Hid (∀ p : Ps, posV p = .agg #[.int .i64 p.line, .int .i64 p.col]) := zA fun _ => rfl;obtain ⟨p0, f0⟩ := blk k0;obtain ⟨p1, f1⟩ := blk k1;obtain ⟨va, vc, rfl⟩ := h.slice;rw [HP.out a, HP.out b]
 generalize vO (cellsD d a b) 15 = r at *
 clear h he hs hf k0 k1 hB;cases r
 ·rw [if_neg qE]
  go_enter Tryz.func129, Tryz.ntmps129;go_wp2_with ((go_at_call 51; refine (HAl.out _ hw0).mono ?_; rintro e w2 ⟨rfl, hst2⟩; have hb2 := zW hw0 hst2; skip));go_ret2;exact ⟨_, rfl, SliceR.nil _ _ _ _ _ _, H1.out.trans (hb2.mono hs1)⟩
 ·rw [if_pos rfl]
  go_enter Tryz.func129, Tryz.ntmps129
  go_wp2_with (first
   | (go_at_call 51; refine (HAl.out _ hw0).mono ?_; rintro e w2 ⟨rfl, hst2⟩; have hb2 := zW hw0 hst2; obtain ⟨q0, g0⟩ := blk (HB.out _ hb2).1; obtain ⟨q1, g1⟩ := blk (HB.out _ hb2).2)
   | (go_at_call 130; refine (HSe.out _ hb2).mono ?_; intro e w3 hsaid; have hsaid := DocSaid.from hsaid (H1.out.trans (hb2.mono hs1)); obtain ⟨v3, rfl, hv3, hb3⟩ := hsaid))
  go_ret2;exact ⟨_, rfl, hv3, hb3⟩
theorem zCU (w : World) (v : Value) (s : St) (u : Value) (t : TypeId) : ∃ W1, ((w.alloc (.cells #[v, .int .i64 s.anc.line, .int .i64 s.anc.col, .int .i64 s.foc.line, .int .i64 s.foc.col, .int .i64 s.on, .int .i64 s.off] 26)).alloc (.cells #[u] t)).alloc (.cells #[.slice none 0 0, .int .i64 0, .int .i64 0, .int .i64 0, .int .i64 0, .int .i64 0, .int .i64 0] 26) = W1 ∧ Below w.heap.size w W1 ∧ w.heap.size + 3 = W1.heap.size ∧
  W1.heap[w.heap.size]? = some (.cells #[v, .int .i64 s.anc.line, .int .i64 s.anc.col, .int .i64 s.foc.line, .int .i64 s.foc.col, .int .i64 s.on, .int .i64 s.off] 26) ∧ W1.heap[w.heap.size + 1]? = some (.cells #[u] t) ∧ W1.heap[w.heap.size + 2]? = some (.cells #[.slice none 0 0, .int .i64 0, .int .i64 0, .int .i64 0, .int .i64 0, .int .i64 0, .int .i64 0] 26) :=
 ⟨_, rfl, zBq (zE _ _) _ _ _, by simp, jH _ _ (jH _ _ (jD _ _ rfl)), jH _ _ (jD _ _ qE), jD _ _ qE⟩
set_option maxRecDepth 100000 in
theorem zHy (v : Value) (s : St) (hr : List UInt8) (w : World) (S : Nat → Prop) (h : jE w S v s.lines) (he : EnvT w) (hs : Small s.lines) (hf : Fits s.lines) (hh : hr.length ≤ 1000000) :
  Calls zV 74 #[stV v s, .string ⟨hr.toArray⟩] w (StSaid (yA s (zCg s hr)) w) := by
 obtain ⟨W1, hW1, hB, hz, k0, k1, k2⟩ := zCU w v s (.string ⟨hr.toArray⟩) 9;have HB : Hid (∀ W, Below W1.heap.size W1 W → W.heap[w.heap.size]? = some (.cells #[v, .int .i64 s.anc.line, .int .i64 s.anc.col, .int .i64 s.foc.line, .int .i64 s.foc.col, .int .i64 s.on, .int .i64 s.off] 26) ∧ W.heap[w.heap.size + 2]? = some (.cells #[.slice none 0 0, .int .i64 0, .int .i64 0, .int .i64 0, .int .i64 0, .int .i64 0, .int .i64 0] 26)) := zA fun W hW => ⟨zX hW k0, zX hW k2⟩;have hs1 := hB.size;have H1 := zA hB
 have HC := zA (zBA v s 125 #[.pointer (some ⟨w.heap.size + 1, 0, none⟩)] (zCg s hr) W1 S (h.below (zZ _) hB) (he.below hB) hs (enters_of Tryz.func125 zT rfl)
  (fun _ W hW => zGR (w.heap.size + 1) v s.lines (qU s).1 (qU s).2 hr W S (h.below (zZ _) (hB.trans (hW.mono hs1))) ((he.below hB).below hW) hs hf hh (zX hW k1)))
 obtain ⟨X, hX⟩ : ∃ X, yA s (zCg s hr) = X := ⟨_, rfl⟩;rw [hX] at HC ⊢;obtain ⟨p0, f0⟩ := blk k0;obtain ⟨p1, f1⟩ := blk k1;obtain ⟨p2, f2⟩ := blk k2;obtain ⟨va, vc, rfl⟩ := h.slice;clear h he hs hf hh hX k0 k1 k2 hB;go_enter Tryz.func74, Tryz.ntmps74;go_wp2_with (go_at_call 124; refine HC.out.mono ?_; intro e w2 hsaid; obtain ⟨v2, rfl, hv2, hb2⟩ := hsaid; obtain ⟨a2, c2, rfl⟩ := hv2.slice; have HV2 := zA hv2; clear hv2; obtain ⟨q2, g2⟩ := blk (HB.out _ hb2).2);refine zM (jQ rfl _ _ (w.heap.size + 2) (.slice a2 X.1.lines.length c2) (.int .i64 X.1.anc.line) (.int .i64 X.1.anc.col) (.int .i64 X.1.foc.line) (.int .i64 X.1.foc.col) (.int .i64 X.1.on) (.int .i64 X.1.off) (.int .i64 X.2) rfl rfl yL) rfl ?_;have hfin := H1.out.trans (hb2.mono hs1);have hv2 := HV2.out;exact ⟨_, rfl, (qG (zZ _) hv2 jM (fun b h _ => jJ)), by ((with_reducible repeat' first | exact zE _ _ | assumption | refine zG ?_ ?_ _ | refine zH ?_ | refine qQ ?_ | refine zF ?_ ?_ _) <;> go_size)⟩
set_option maxRecDepth 100000 in
theorem zGP (v : Value) (s : St) (w : World) (S : Nat → Prop) (h : jE w S v s.lines) (he : EnvT w) (hs : Small s.lines) (hf : Fits s.lines) :
  Calls zV 76 #[stV v s] w (StSaid (yA s (zCb s)) w) := by
 obtain ⟨W1, hW1, hB, hz, k0, k2⟩ := xE w v s;have HB : Hid (∀ W, Below W1.heap.size W1 W → W.heap[w.heap.size]? = some (.cells #[v, .int .i64 s.anc.line, .int .i64 s.anc.col, .int .i64 s.foc.line, .int .i64 s.foc.col, .int .i64 s.on, .int .i64 s.off] 26) ∧ W.heap[w.heap.size + 1]? = some (.cells #[.slice none 0 0, .int .i64 0, .int .i64 0, .int .i64 0, .int .i64 0, .int .i64 0, .int .i64 0] 26)) := zA fun W hW => ⟨zX hW k0, zX hW k2⟩;have hs1 := hB.size;have H1 := zA hB
 have HC := zA (zBA v s 129 #[] (zCb s) W1 S (h.below (zZ _) hB) (he.below hB) hs (enters_of Tryz.func129 zT rfl)
  (fun _ W hW => zGw v s.lines (qU s).1 (qU s).2 W S (h.below (zZ _) (hB.trans (hW.mono hs1))) ((he.below hB).below hW) hs hf))
 obtain ⟨X, hX⟩ : ∃ X, yA s (zCb s) = X := ⟨_, rfl⟩;rw [hX] at HC ⊢;obtain ⟨p0, f0⟩ := blk k0;obtain ⟨p2, f2⟩ := blk k2;obtain ⟨va, vc, rfl⟩ := h.slice;clear h he hs hf hX k0 k2 hB;go_enter Tryz.func76, Tryz.ntmps76;go_wp2_with (go_at_call 124; refine HC.out.mono ?_; intro e w2 hsaid; obtain ⟨v2, rfl, hv2, hb2⟩ := hsaid; obtain ⟨a2, c2, rfl⟩ := hv2.slice; have HV2 := zA hv2; clear hv2; obtain ⟨q2, g2⟩ := blk (HB.out _ hb2).2);refine zM (jQ rfl _ _ (w.heap.size + 1) (.slice a2 X.1.lines.length c2) (.int .i64 X.1.anc.line) (.int .i64 X.1.anc.col) (.int .i64 X.1.foc.line) (.int .i64 X.1.foc.col) (.int .i64 X.1.on) (.int .i64 X.1.off) (.int .i64 X.2) rfl rfl yL) rfl ?_;have hfin := H1.out.trans (hb2.mono hs1);have hv2 := HV2.out;exact ⟨_, rfl, (qG (zZ _) hv2 jM (fun b h _ => jJ)), by ((with_reducible repeat' first | exact zE _ _ | assumption | refine zG ?_ ?_ _ | refine zH ?_ | refine qQ ?_ | refine zF ?_ ?_ _) <;> go_size)⟩
theorem zJA (l : Lin) (d : Doc) : flat (l :: d) = l.cells ++ flat d := by simp [flat]
set_option maxRecDepth 100000 in
theorem zHt (v : Value) (s : St) (w : World) (S : Nat → Prop) (h : jE w S v s.lines) (he : EnvT w) (hs : Small s.lines) (hf : Fits s.lines) (hm : mayS s = true) :
  Calls zV 112 #[stV v s] w fun e w' => e = .returned (.int .i64 (typB s)) ∧ Below w.heap.size w w' := by
 obtain ⟨W1, hW1, hB, hz, k0⟩ := vU w v s;have HB : Hid (∀ W, Below W1.heap.size W1 W → W.heap[w.heap.size]? = some (.cells #[v, .int .i64 s.anc.line, .int .i64 s.anc.col, .int .i64 s.foc.line, .int .i64 s.foc.col, .int .i64 s.on, .int .i64 s.off] 26)) := zA fun W hW => zX hW k0;have hs1 := hB.size;have H1 := zA hB;have hw0 : Below W1.heap.size W1 W1 := zE _ _;have HV : Hid (∀ W, Below W1.heap.size W1 W → jE W S v s.lines) := zA fun W hW => h.below (zZ _) (hB.trans (hW.mono hs1));have HE : Hid (∀ W, Below W1.heap.size W1 W → EnvT W) := zA fun W hW => (he.below hB).below hW;have HSp : Hid (∀ W, Below W1.heap.size W1 W → Calls zV 49 #[stV v s] W fun e w' => e = .returned (.tuple #[.agg #[.int .i64 (qU s).1.line, .int .i64 (qU s).1.col], .agg #[.int .i64 (qU s).2.line, .int .i64 (qU s).2.col]]) ∧ Below W.heap.size W w') := zA fun W hW => uR v s W;obtain ⟨hMo, hsp, _, _, hiA⟩ := vR hm;obtain ⟨i, n, l, hA, hl, hnl, hml, hla⟩ := zCc (uW hm).1 hiA;have HPt : Hid (∀ W, Below W1.heap.size W1 W → Calls zV 103 #[v, posV (qU s).1, posV (qU s).2] W (DocSaid (yI s.lines (qU s).1 (qU s).2) W)) := zA fun W hW => zEk v s.lines _ _ W S (HV.out W hW) (HE.out W hW) hs hf;have hfl := zIH hsp
 have hR : typB s = bits .or .i64 (bits .andNot .i64 (zAP (flat (yI s.lines (qU s).1 (qU s).2).1) (xL l.cells n).1) s.off) s.on := by
  unfold typB;rw [hfl, hla, hA]
  rfl
 have HR := zA hR;obtain ⟨px, pe, hpx⟩ : ∃ px pe, yI s.lines (qU s).1 (qU s).2 = (px, pe) := ⟨_, _, rfl⟩;rw [hpx] at HPt HR
 have HPL : Hid (px.length ≤ 1000000) := zA (by
  obtain ⟨_, i2, j2, p2, q2, _, _, e1, e2, g1, g2, _⟩ := vS hsp;have h9 := hsp;rw [e1, e2] at h9;have h8 := zHM h9;rw [← e1, ← e2, hpx] at h8;have := (zK.1 g2).1;have := hf.1;simp only at h8
  omega)
 obtain ⟨B, hBB⟩ : ∃ B, (qU s).2 = B := ⟨_, rfl⟩;rw [hA, hBB] at HSp HPt;have HP : Hid (∀ p : Ps, posV p = .agg #[.int .i64 p.line, .int .i64 p.col]) := zA fun _ => rfl;rw [HP.out, HP.out] at HPt;obtain ⟨x, y, hxy⟩ : ∃ x y, xL l.cells n = (x, y) := ⟨_, _, rfl⟩;rw [hxy] at HR;have HXY := zA hxy;have hil := (zK.1 hl).1;obtain ⟨va, vc, rfl, hvc, hvm, hx⟩ := kP h;obtain ⟨b, o, la, lc, ca, cc, rfl, hAt⟩ := hx i l hl;have HAT : Hid (∀ W, Below W1.heap.size W1 W → LinAt W S b (o + i * 4) l la lc ca cc) := zA fun W hW => hAt.below (hB.trans (hW.mono hs1));unfold maxLen at hvm;have i0 : (0 : Int) ≤ (i : Int) := zR _;have i1 : (i : Int) < (s.lines.length : Int) := by omega
 obtain ⟨p0, f0⟩ := blk k0;obtain ⟨r, hr⟩ : ∃ r, typB s = r := ⟨_, rfl⟩;rw [hr] at HR ⊢;clear hr h he hs hf hm hMo hsp hiA hl hml hla hA hfl hpx hBB hxy hx hAt k0 hB hR;go_enter Tryz.func112, Tryz.ntmps112;go_wp2_with (go_at_call 49; refine (HSp.out _ hw0).mono ?_; rintro e w2 ⟨rfl, hb2⟩; obtain ⟨q0, g0⟩ := blk (HB.out _ hb2));obtain ⟨w3, hw3⟩ : ∃ w3, (w2.alloc (.cells #[.int .i64 i, .int .i64 n] 24)).alloc (.cells #[.int .i64 B.line, .int .i64 B.col] 24) = w3 := ⟨_, rfl⟩;rw [hw3];have hb23 : Below w2.heap.size w2 w3 := hw3 ▸ ((zE _ _).alloc (Nat.le_refl _) _).alloc qE _;have n3 : w3.heap[w2.heap.size]? = some (.cells #[.int .i64 i, .int .i64 n] 24) := hw3 ▸ jH _ _ (jD _ _ rfl);have n4 : w3.heap[w2.heap.size + 1]? = some (.cells #[.int .i64 B.line, .int .i64 B.col] 24) := hw3 ▸ jD _ _ qE;have hb3 := zW hb2 hb23;have HB3 : Hid (∀ W, Below w3.heap.size w3 W → W.heap[w2.heap.size]? = some (.cells #[.int .i64 i, .int .i64 n] 24) ∧ W.heap[w2.heap.size + 1]? = some (.cells #[.int .i64 B.line, .int .i64 B.col] 24)) := zA fun W hW => ⟨zX hW n3, zX hW n4⟩
 have HAr : Hid (∀ W, Below w3.heap.size w3 W → Calls zV 84 #[.slice ca l.cells.length cc, .int .i64 n] W fun e w' => e = .returned (.tuple #[.int .i64 x, .string ⟨y.toArray⟩]) ∧ Below W.heap.size W w') := zA fun W hW => by
  have := zCQ _ l.cells n W S (HAT.out W (zW hb3 hW)).cellsR hnl;rw [HXY.out] at this;exact this
 clear n3 n4 q0 g0 p0 f0 hw3;refine kX w3.heap.size zT zT ?_;refine zI zT (fun K hK => ?_);refine qK ?_ (fun W hW => ?_) (hK _ ?_);rotate_left 1
 ·skip
  go_simp
  try rfl
 clear hK;clear K;try simp only [zU, qI, qX, qY]
 refine zI zT (fun K hK => ?_);refine qK ?_ (fun W hW => ?_) (hK _ ?_);rotate_left 1
 ·skip
  obtain ⟨p0, f0⟩ := blk (HB.out _ (zW hb3 hW));obtain ⟨p3, f3⟩ := blk (HB3.out _ hW).1;obtain ⟨_, _, _, _, c3, _, _⟩ := HAT.out _ (zW hb3 hW);go_simp
  try rfl
 clear hK;clear K;try simp only [zU, qI, qX, qY]
 refine zI zT (fun K hK => ?_);refine qK ?_ (fun W hW => ?_) (hK _ ?_);rotate_left 1
 ·skip
  go_simp
  try rfl
 clear hK;clear K;try simp only [zU, qI, qX, qY]
 refine zI zT (fun K hK => ?_);refine qK ?_ (fun W hW => ?_) (hK _ ?_);rotate_left 1
 ·skip
  obtain ⟨p0, f0⟩ := blk (HB.out _ (zW hb3 hW));obtain ⟨p3, f3⟩ := blk (HB3.out _ hW).1;obtain ⟨_, _, _, _, c3, _, _⟩ := HAT.out _ (zW hb3 hW);go_simp
  try rfl
 clear hK;clear K;try simp only [zU, qI, qX, qY]
 refine zI zT (fun K hK => ?_);refine qK ?_ (fun W hW => ?_) (hK _ ?_);rotate_left 1
 ·skip
  go_simp
  try rfl
 clear hK;clear K;try simp only [zU, qI, qX, qY]
 refine zI zT (fun K hK => ?_);refine qK ?_ (fun W hW => ?_) (hK _ ?_);rotate_left 1
 ·skip
  go_simp
  try rfl
 clear hK;clear K;try simp only [zU, qI, qX, qY]
 refine zI zT (fun K hK => ?_);refine qK ?_ (fun W hW => ?_) (hK _ ?_);rotate_left 1
 ·skip
  obtain ⟨p0, f0⟩ := blk (HB.out _ (zW hb3 hW));obtain ⟨p3, f3⟩ := blk (HB3.out _ hW).1;obtain ⟨_, _, _, _, c3, _, _⟩ := HAT.out _ (zW hb3 hW);go_simp
  try rfl
 clear hK;clear K;try simp only [zU, qI, qX, qY]
 refine zI zT (fun K hK => ?_);refine qK ?_ (fun W hW => ?_) (hK _ ?_);rotate_left 1
 ·skip
  go_simp
  try rfl
 clear hK;clear K;try simp only [zU, qI, qX, qY]
 refine zI zT (fun K hK => ?_);refine qK ?_ (fun W hW => ?_) (hK _ ?_);rotate_left 1
 ·skip
  obtain ⟨p0, f0⟩ := blk (HB.out _ (zW hb3 hW));obtain ⟨p3, f3⟩ := blk (HB3.out _ hW).1;obtain ⟨_, _, _, _, c3, _, _⟩ := HAT.out _ (zW hb3 hW);go_simp
  try rfl
 clear hK;clear K;try simp only [zU, qI, qX, qY]
 refine zI zT (fun K hK => ?_);refine vP (f := ?_) (args := ?_) ?_ (fun W hW => ?_) (fun W hW => ?_) (hK _ ?_);rotate_left 3
 ·go_simp
  constructor <;> rfl
 ·refine (HAr.out _ hW).mono ?_
  rintro e W2 ⟨rfl, hbW⟩;refine ⟨?_, zW hW hbW⟩
  rfl
 clear hK;clear K;try simp only [zU, qI, qX, qY]
 refine zI zT (fun K hK => ?_);refine qK ?_ (fun W hW => ?_) (hK _ ?_);rotate_left 1
 ·skip
  go_simp
  try rfl
 clear hK;clear K;try simp only [zU, qI, qX, qY]
 refine zI zT (fun K hK => ?_);refine qK ?_ (fun W hW => ?_) (hK _ ?_);rotate_left 1
 ·skip
  go_simp
  try rfl
 clear hK;clear K;try simp only [zU, qI, qX, qY]
 refine zI zT (fun K hK => ?_);refine qK ?_ (fun W hW => ?_) (hK _ ?_);rotate_left 1
 ·skip
  go_simp
  try rfl
 clear hK;clear K;try simp only [zU, qI, qX, qY]
 refine zI zT (fun K hK => ?_);refine qK ?_ (fun W hW => ?_) (hK _ ?_);rotate_left 1
 ·skip
  go_simp
  try rfl
 clear hK;clear K;try simp only [zU, qI, qX, qY]
 refine zI zT (fun K hK => ?_);refine qK ?_ (fun W hW => ?_) (hK _ ?_);rotate_left 1
 ·skip
  go_simp
  try rfl
 clear hK;clear K;try simp only [zU, qI, qX, qY]
 refine wpQuiet_nil (fun X6 hstX6 => ?_);have hcX6 := zW hb3 hstX6;obtain ⟨p0, f0⟩ := blk (HB.out _ hcX6);obtain ⟨p3, f3⟩ := blk (HB3.out _ hstX6).1;obtain ⟨p4, f4⟩ := blk (HB3.out _ hstX6).2;go_wp2_with (go_at_call 103; refine (HPt.out _ hcX6).mono ?_; intro e w7 hsaid; obtain ⟨v7, rfl, hv7, hst7⟩ := hsaid; obtain ⟨a7, c7, rfl, hc7, hm7, hx7⟩ := kP hv7.read; have HX := zA hx7; clear hv7 hx7);have hb7 := zW hcX6 hst7;have HK0 := zA hb7;unfold maxLen at hm7;have hpl := HPL.out;clear p0 f0 p3 f3 p4 f4;go_loopw [5, 39] (fun bb z wr => ∃ k : Nat, k ≤ px.length ∧ z = .int .i64 k ∧ bb = .int .i64 x ∧ Hid (zAP (flat px) x = zAP (flat (px.drop k)) x) ∧ Below w7.heap.size w7 wr) (fun _ z _ => px.length - (intOf z).toNat)
 case atStart => exact ⟨0, Nat.zero_le _, rfl, rfl, zA rfl, zE _ _⟩
 case round =>
  obtain ⟨k, hk, rfl, rfl, HK, hb⟩ := hrel;have hbw := zW hb7 hb
  by_cases hlt : k < px.length
  ·obtain ⟨ln, hln, hdr⟩ := jO px k hlt
   obtain ⟨b1, o1, la1, lc1, ca1, cc1, rfl, hAk⟩ := HX.out k ln hln;obtain ⟨_, d0, d1, d2, d3, _, hcR⟩ := hAk.below hb;rw [hdr, zJA] at HK;have k0' : (0 : Int) ≤ (k : Int) := zR _;have k1' : (k : Int) < (px.length : Int) := by omega
   cases hce : ln.cells with
   | nil =>
    rw [hce] at d3 HK;rw [List.nil_append] at HK;simp only [List.length_nil] at d3;clear hcR hAk hln hdr hce;go_wp2_with fail;go_roundw
    case rel => exact ⟨k + 1, hlt, by go_num, rfl, HK, hb.alloc hb.size _⟩
    case measure => simp [intOf]; omega
   | cons cel cels =>
    rw [hce] at d3 HK hcR;obtain ⟨a9, c9, e9, _, _, hx9⟩ := uB hcR;cases e9;obtain ⟨b9, o9, rfl, hz9, u0, u1, u2⟩ := hx9 0 cel rfl;rw [Nat.zero_mul, Nat.add_zero] at u0 u1 u2;have u1' : ∀ X, (wr.alloc X).cell? ⟨b9, o9 + 1, none⟩ = some (.int .i64 cel.bits) := fun X => (World.cell?_of_block (heap_alloc_old _ _ hz9)).trans u1;have hp1 : (0 : Int) < (((cel :: cels).length : Nat) : Int) := by simp
    have hp2 : 0 < (cel :: cels).length := by simp
    have HKK : Hid (zAP (flat px) x = cel.bits) := zA (HK.out.trans rfl);obtain ⟨m, hm⟩ : ∃ m, (cel :: cels).length = m := ⟨_, rfl⟩;rw [hm] at d3 hp1 hp2;have r0 := on1 (HB.out _ hbw);clear hcR hAk hln hdr hce HK hx9 u0 u1 u2;go_wp2_with fail;go_ret;rw [HR.out, HKK.out];exact ⟨rfl, H1.out.trans ((hbw.alloc hbw.size _).mono hs1)⟩
  ·obtain rfl : k = px.length := by omega
   have HKK : Hid (zAP (flat px) x = x) := zA (by have := HK.out; rw [List.drop_length] at this; exact this);obtain ⟨p0, f0⟩ := blk (HB.out _ hbw);clear HK;go_wp2_with fail;go_ret;rw [HR.out, HKK.out];exact ⟨rfl, H1.out.trans (hbw.mono hs1)⟩
set_option maxRecDepth 100000 in
theorem zIZ (Bt Bs : Nat) (v : Value) (s : St) (t : ByteArray) (n : Nat) (a : Option Addr) (c : Nat) (w : World) (S : Nat → Prop) (ht : w.heap[Bt]? = some (.cells #[.string t] 9)) (hst : w.heap[Bs]? = some (.cells #[v, .int .i64 s.anc.line, .int .i64 s.anc.col, .int .i64 s.foc.line, .int .i64 s.foc.col, .int .i64 s.on, .int .i64 s.off] 26)) (hv : jE w S v s.lines) (he : EnvT w) (hs : Small s.lines) (hf : Fits s.lines) (hm : mayS s = true)
  (h : DocR true w (fun b => n ≤ b) (.slice a (outS s).length c) (outS s)) (hn : n ≤ w.heap.size) (hts : t.size ≤ 1000000) :
  Calls zV 108 #[.slice a (outS s).length c, posV (qU s).1, .pointer (some ⟨Bt, 0, none⟩), .pointer (some ⟨Bs, 0, none⟩)] w (DocPB n (vX s t) w) := by
 obtain ⟨hMo, hsp, hiO, _, hiA⟩ := vR hm;obtain ⟨i, p, l, hA, hl, hpl, hml, hla⟩ := zCc hMo hiO;have hso := (uT hMo).1;have hfo := (uT hMo).2;obtain ⟨x, y, hxy⟩ : ∃ x y, xL l.cells p = (x, y) := ⟨_, _, rfl⟩
 have hyl : y.length ≤ 1000000 := by
  have h9 : (xL l.cells p).2 = y := by rw [hxy]
  rw [← h9];unfold xL;simp only
  split
  ·rename_i h1
   have hme : (l.cells.getD (p - 1) default) ∈ l.cells := by
    rw [List.getD_eq_getElem?_getD, List.getElem?_eq_getElem (show p - 1 < l.cells.length by omega)];exact List.getElem_mem _
   exact hso.2.2 l (vJ hl) _ hme
  ·simp
 have HR : Hid (vX s t = if 8192 < t.size then ([], ⟨i, p⟩, 10) else if yQ t = [] then ([], ⟨i, p⟩, 7) else yV (xT (yQ t) (typB s) y) (outS s) ⟨i, p⟩) := zA (by
  unfold vX;rw [hla, hA];simp only [Int.toNat_natCast];rw [hxy])
 have hcl : (yQ t).length ≤ t.size := Nat.le_trans (List.length_filterMap_le _ _) (zCz t);have HXY := zA hxy;have HOL := zA hl;obtain ⟨O, hO⟩ : ∃ O, outS s = O := ⟨_, rfl⟩;rw [hO] at h hl hso hfo HR HOL;rw [hO, hA];obtain ⟨W1, hW1, hB, hz, k0, k1⟩ := vA w (.int .i64 i) (.int .i64 p) (.int .i64 0) (.int .i64 0);have hs1 := hB.size;have kt := zX hB ht;have ks := zX hB hst;have HB : Hid (∀ W, Below W1.heap.size W1 W → W.heap[w.heap.size]? = some (.cells #[.int .i64 (⟨i, p⟩ : Ps).line, .int .i64 (⟨i, p⟩ : Ps).col] 24) ∧ W.heap[w.heap.size + 1]? = some (.cells #[.int .i64 0, .int .i64 0] 24) ∧ W.heap[Bt]? = some (.cells #[.string t] 9) ∧ W.heap[Bs]? = some (.cells #[v, .int .i64 s.anc.line, .int .i64 s.anc.col, .int .i64 s.foc.line, .int .i64 s.foc.col, .int .i64 s.on, .int .i64 s.off] 26)) := zA fun W hW => ⟨zX hW k0, zX hW k1, zX hW kt, zX hW ks⟩;have hw0 : Below W1.heap.size W1 W1 := zE _ _;have hE1 := he.below hB;have HCln : Hid (∀ W, Below W1.heap.size W1 W → Calls zV 109 #[.string t] W fun e w' => ∃ v, e = .returned v ∧ zBr true w' (fun b => W.heap.size ≤ b) v (yQ t) ∧ Below W.heap.size W w') := zA fun W _ => zFg t W qC;have HBi : Hid (∀ W, Below W1.heap.size W1 W → Calls zV 112 #[stV v s] W fun e w' => e = .returned (.int .i64 (typB s)) ∧ Below W.heap.size W w') := zA fun W hW => zHt v s W S (hv.below (zZ _) (hB.trans (hW.mono hs1))) (hE1.below hW) hs hf hm;have HOf : Hid (∀ b W, Below W1.heap.size W1 W → Calls zV 111 #[.string t, .int .i64 b, .string ⟨y.toArray⟩] W fun e w' => ∃ v, e = .returned v ∧ jC true w' (fun b => W.heap.size ≤ b) v (xT (yQ t) b y) ∧ Below W.heap.size W w') := zA fun b W _ => zIb t b y W qC
 have HIn : Hid (∀ b lv S2 W, Below W1.heap.size W1 W → jC false W S2 lv (xT (yQ t) b y) → Calls zV 110 #[.slice a O.length c, .agg #[.int .i64 i, .int .i64 p], lv] W (DocPSaid (yV (xT (yQ t) b y) O ⟨i, p⟩) W)) := zA fun b lv S2 W hW hlv => zGE _ lv O _ ⟨i, p⟩ W (fun b => n ≤ b) S2 (h.below (hB.trans (hW.mono hs1))).read hlv (hE1.below hW) hso hfo (by unfold xT; rw [List.length_map]; omega) (fun c hc => by
  unfold xT at hc;obtain ⟨r, _, rfl⟩ := List.mem_map.1 hc;exact hyl)
 obtain ⟨a', c', ee, hvc, hvm, hx⟩ := kP (h.below hB).read;cases ee;obtain ⟨b, o, la, lc, ca, cc, rfl, hAt⟩ := hx i l hl;have HAT : Hid (∀ W, Below W1.heap.size W1 W → LinAt W (fun b => n ≤ b) b (o + i * 4) l la lc ca cc) := zA fun W hW => hAt.below hW
 have HAr : Hid (∀ W, Below W1.heap.size W1 W → Calls zV 84 #[.slice ca l.cells.length cc, .int .i64 p] W fun e w' => e = .returned (.tuple #[.int .i64 x, .string ⟨y.toArray⟩]) ∧ Below W.heap.size W w') := zA fun W hW => by
  have := zCQ _ l.cells p W _ (HAT.out W hW).cellsR hpl;rw [HXY.out] at this;exact this
 have hil := (zK.1 hl).1;unfold maxLen at hvm;have i0 : (0 : Int) ≤ (i : Int) := zR _;have i1 : (i : Int) < (O.length : Int) := by omega
 have HP : Hid (∀ p : Ps, posV p = .agg #[.int .i64 p.line, .int .i64 p.col]) := zA fun _ => rfl;rw [HP.out];have H1 := zA hB;have HN := zA hn;have HK := zA k1;have hBt := (zL.1 ht).1;have hBs := (zL.1 hst).1;have e1 : ¬ Bt = w.heap.size := by omega
 have e2 : ¬ Bt = w.heap.size + 1 := by omega
 have e3 : ¬ Bs = w.heap.size := by omega
 have e4 : ¬ Bs = w.heap.size + 1 := by omega
 have e5 : ¬ w.heap.size + 1 = Bt := by omega
 have e6 : ¬ w.heap.size + 1 = Bs := by omega
 obtain ⟨p0, f0⟩ := blk k0;obtain ⟨p1, f1⟩ := blk k1;obtain ⟨p2, f2⟩ := blk kt;obtain ⟨va, vc, rfl⟩ := hv.slice;obtain ⟨tb, htb⟩ : ∃ tb, typB s = tb := ⟨_, rfl⟩;rw [htb] at HBi HR;obtain ⟨cl, hcl2⟩ : ∃ cl, yQ t = cl := ⟨_, rfl⟩;rw [hcl2] at HCln HOf HIn HR hcl;have HOf := zA (fun W hW => HOf.out tb W hW);have HIn := zA (fun lv S2 W hW h9 => HIn.out tb lv S2 W hW h9);clear ht hst hv he hs hf hm h hn hMo hsp hiO hiA hA hl hpl hml hla hso hfo hxy hyl hO k0 k1 kt ks hB hE1 hx hAt htb hcl2
 by_cases h8 : 8192 < t.size
 ·have HR := zA (HR.out.trans (if_pos h8))
  have h8i : (8192 : Int) < (t.size : Int) := by omega
  go_enter Tryz.func108, Tryz.ntmps108;go_wp2_with fail;go_region;go_wp2_with fail;refine zM (kK rfl _ _ (w.heap.size + 1) (.int .i64 i) (.int .i64 p) rfl (by rw [xD]; simp [qR, qW, HK.out])) rfl ?_;have hfin := H1.out;exact DocPB.err HR.out zBv HN.out
 have HR := zA (HR.out.trans (if_neg h8));have h8i : ¬ (8192 : Int) < (t.size : Int) := by omega
 by_cases hc0 : cl = []
 ·have HR := zA (HR.out.trans (if_pos hc0))
  have hcz : ((cl.length : Nat) : Int) = 0 := by rw [hc0]; rfl
  have hcz2 : (((cl.length : Nat) : Int) == 0) = true := by rw [hcz]; rfl
  clear hc0 hcz;go_enter Tryz.func108, Tryz.ntmps108;go_wp2_with (go_at_call 109; refine (HCln.out _ hw0).mono ?_; rintro e w2 ⟨v2, rfl, hv2, hst2⟩; obtain ⟨a2, c2, rfl⟩ := hv2.slice; clear hv2; have hb2 := zW hw0 hst2; obtain ⟨q0, g0⟩ := blk (HB.out _ hb2).1; obtain ⟨q1, g1⟩ := blk (HB.out _ hb2).2.1; obtain ⟨q2, g2⟩ := blk (HB.out _ hb2).2.2.1);go_region;go_wp2_with fail;refine zM (kK rfl _ _ (w.heap.size + 1) (.int .i64 i) (.int .i64 p) rfl (by rw [xD]; simp [qR, qW, (HB.out _ hb2).2.1])) rfl ?_;have hfin := H1.out.trans (hb2.mono hs1);exact DocPB.err HR.out zBv HN.out
 have HR := zA (HR.out.trans (if_neg hc0))
 have hcz2 : (((cl.length : Nat) : Int) == 0) = false := by
  have : cl.length ≠ 0 := fun e => hc0 (List.length_eq_zero_iff.1 e)
  simp
  exact hc0
 clear hc0;obtain ⟨Y, q, er, hY⟩ : ∃ Y q er, yV (xT cl tb y) O ⟨i, p⟩ = (Y, q, er) := ⟨_, _, _, rfl⟩;rw [hY] at HIn HR;clear hY;go_enter Tryz.func108, Tryz.ntmps108;go_wp2_with (go_at_call 109; refine (HCln.out _ hw0).mono ?_; rintro e w2 ⟨v2, rfl, hv2, hst2⟩; obtain ⟨a2, c2, rfl⟩ := hv2.slice; clear hv2; have hb2 := zW hw0 hst2; obtain ⟨q0, g0⟩ := blk (HB.out _ hb2).1; obtain ⟨q1, g1⟩ := blk (HB.out _ hb2).2.1; obtain ⟨q2, g2⟩ := blk (HB.out _ hb2).2.2.1);refine kX w2.heap.size zT zT ?_;refine zI zT (fun K hK => ?_);refine qK ?_ (fun W hW => ?_) (hK _ ?_);rotate_left 1
 ·skip
  go_simp
  try rfl
 clear hK;clear K;try simp only [zU, qI, qX, qY]
 refine zI zT (fun K hK => ?_);refine qK ?_ (fun W hW => ?_) (hK _ ?_);rotate_left 1
 ·skip
  go_simp
  try rfl
 clear hK;clear K;try simp only [zU, qI, qX, qY]
 refine zI zT (fun K hK => ?_);refine qK ?_ (fun W hW => ?_) (hK _ ?_);rotate_left 1
 ·skip
  obtain ⟨p0, f0⟩ := blk (HB.out _ (zW hb2 hW)).1;obtain ⟨_, _, _, _, c3, _, _⟩ := HAT.out _ (zW hb2 hW);go_simp
  try rfl
 clear hK;clear K;try simp only [zU, qI, qX, qY]
 refine zI zT (fun K hK => ?_);refine qK ?_ (fun W hW => ?_) (hK _ ?_);rotate_left 1
 ·skip
  go_simp
  try rfl
 clear hK;clear K;try simp only [zU, qI, qX, qY]
 refine zI zT (fun K hK => ?_);refine qK ?_ (fun W hW => ?_) (hK _ ?_);rotate_left 1
 ·skip
  go_simp
  try rfl
 clear hK;clear K;try simp only [zU, qI, qX, qY]
 refine zI zT (fun K hK => ?_);refine qK ?_ (fun W hW => ?_) (hK _ ?_);rotate_left 1
 ·skip
  obtain ⟨p0, f0⟩ := blk (HB.out _ (zW hb2 hW)).1;obtain ⟨_, _, _, _, c3, _, _⟩ := HAT.out _ (zW hb2 hW);go_simp
  try rfl
 clear hK;clear K;try simp only [zU, qI, qX, qY]
 refine zI zT (fun K hK => ?_);refine qK ?_ (fun W hW => ?_) (hK _ ?_);rotate_left 1
 ·skip
  go_simp
  try rfl
 clear hK;clear K;try simp only [zU, qI, qX, qY]
 refine zI zT (fun K hK => ?_);refine qK ?_ (fun W hW => ?_) (hK _ ?_);rotate_left 1
 ·skip
  obtain ⟨p0, f0⟩ := blk (HB.out _ (zW hb2 hW)).1;obtain ⟨_, _, _, _, c3, _, _⟩ := HAT.out _ (zW hb2 hW);go_simp
  try rfl
 clear hK;clear K;try simp only [zU, qI, qX, qY]
 refine zI zT (fun K hK => ?_);refine vP (f := ?_) (args := ?_) ?_ (fun W hW => ?_) (fun W hW => ?_) (hK _ ?_);rotate_left 3
 ·go_simp
  constructor <;> rfl
 ·refine (HAr.out _ (zW hb2 hW)).mono ?_
  rintro e W2 ⟨rfl, hbW⟩;refine ⟨?_, zW hW hbW⟩
  rfl
 clear hK;clear K;try simp only [zU, qI, qX, qY]
 refine zI zT (fun K hK => ?_);refine qK ?_ (fun W hW => ?_) (hK _ ?_);rotate_left 1
 ·skip
  go_simp
  try rfl
 clear hK;clear K;try simp only [zU, qI, qX, qY]
 refine zI zT (fun K hK => ?_);refine qK ?_ (fun W hW => ?_) (hK _ ?_);rotate_left 1
 ·skip
  go_simp
  try rfl
 clear hK;clear K;try simp only [zU, qI, qX, qY]
 refine zI zT (fun K hK => ?_);refine qK ?_ (fun W hW => ?_) (hK _ ?_);rotate_left 1
 ·skip
  go_simp
  try rfl
 clear hK;clear K;try simp only [zU, qI, qX, qY]
 refine zI zT (fun K hK => ?_);refine qK ?_ (fun W hW => ?_) (hK _ ?_);rotate_left 1
 ·skip
  go_simp
  try rfl
 clear hK;clear K;try simp only [zU, qI, qX, qY]
 refine zI zT (fun K hK => ?_);refine qK ?_ (fun W hW => ?_) (hK _ ?_);rotate_left 1
 ·skip
  go_simp
  try rfl
 clear hK;clear K;try simp only [zU, qI, qX, qY]
 refine wpQuiet_nil (fun X6 hstX6 => ?_);have hcX6 := zW hb2 hstX6;clear p0 f0 p1 f1 p2 f2 q0 g0 q1 g1 q2 g2;obtain ⟨p0, f0⟩ := blk (HB.out _ hcX6).1;obtain ⟨p1, f1⟩ := blk (HB.out _ hcX6).2.1;obtain ⟨p2, f2⟩ := blk (HB.out _ hcX6).2.2.1;obtain ⟨p3, f3⟩ := blk (HB.out _ hcX6).2.2.2;have hd6 : Below W1.heap.size W1 X6.drew := hcX6.drew;go_wp2_with fail
 go_region_held3 (fun w' => w'.cell? ⟨w.heap.size, 0, none⟩ = some (.int .i64 i) ∧ w'.cell? ⟨w.heap.size, 1, none⟩ = some (.int .i64 p) ∧ w'.cell? ⟨Bt, 0, none⟩ = some (.string t) ∧ w'.cell? ⟨Bs, 0, none⟩ = some (.slice va s.lines.length vc) ∧ w'.cell? ⟨Bs, 1, none⟩ = some (.int .i64 s.anc.line) ∧ w'.cell? ⟨Bs, 2, none⟩ = some (.int .i64 s.anc.col) ∧ w'.cell? ⟨Bs, 3, none⟩ = some (.int .i64 s.foc.line) ∧ w'.cell? ⟨Bs, 4, none⟩ = some (.int .i64 s.foc.col) ∧ w'.cell? ⟨Bs, 5, none⟩ = some (.int .i64 s.on) ∧ w'.cell? ⟨Bs, 6, none⟩ = some (.int .i64 s.off)) (go_keep)
  ((first
   | (go_at_call 112; refine (HBi.out _ hd6).mono ?_; rintro e w7 ⟨rfl, hst7⟩; have hb7 := zW hd6 hst7; obtain ⟨r0, s0⟩ := blk (HB.out _ hb7).1; obtain ⟨r1, s1⟩ := blk (HB.out _ hb7).2.1; obtain ⟨r2, s2⟩ := blk (HB.out _ hb7).2.2.1; obtain ⟨r3, s3⟩ := blk (HB.out _ hb7).2.2.2)
   | (go_at_call 111; refine (HOf.out _ hb7).mono ?_; rintro e w8 ⟨v8, rfl, hv8, hst8⟩; have hb8 := zW hb7 hst8; have HI8 := zA (fun W hW => HIn.out v8 (fun b => w7.heap.size ≤ b) W hW); have HV8 := zA (SliceR.read (fun _ _ h => h) hv8); clear hv8; obtain ⟨r4, s4⟩ := blk (HB.out _ hb8).1; obtain ⟨r5, s5⟩ := blk (HB.out _ hb8).2.1; obtain ⟨r6, s6⟩ := blk (HB.out _ hb8).2.2.1; obtain ⟨r7, s7⟩ := blk (HB.out _ hb8).2.2.2)
   | (go_at_call 110; refine (HI8.out _ hb8 HV8.out).mono ?_; intro e w9 hsaid; obtain ⟨v9, he9, hv9, hst9⟩ := hsaid; rw [HP.out] at he9; subst he9; have hb9 := zW hb8 hst9; have HV9 := zA hv9; clear hv9; obtain ⟨t0, u0⟩ := blk (HB.out _ hb9).1; obtain ⟨t1, u1⟩ := blk (HB.out _ hb9).2.1; obtain ⟨t2, u2⟩ := blk (HB.out _ hb9).2.2.1; obtain ⟨t3, u3⟩ := blk (HB.out _ hb9).2.2.2)))
 go_wp2_with fail;have hfin := H1.out.trans (hb9.mono hs1);refine zM (kK rfl _ _ (w.heap.size + 1) (.int .i64 q.line) (.int .i64 q.col) rfl (by simp [qR, qW, (HB.out _ hb9).2.1])) rfl ?_;rw [HR.out];have hv9 := HV9.out;have hz8 := hb8.size;have hn9 : n ≤ w.heap.size := HN.out;refine ⟨_, rfl, (qG (zZ _) hv9 jM (fun b h _ => jJ)), ?_⟩;refine Below.mono ?_ HN.out
 ((with_reducible repeat' first | exact zE _ _ | assumption | refine zG ?_ ?_ _ | refine zH ?_ | refine qQ ?_ | refine zF ?_ ?_ _) <;> go_size)
set_option maxRecDepth 100000 in
theorem zEa (v : Value) (s : St) (t : ByteArray) (w : World) (S : Nat → Prop) (h : jE w S v s.lines) (he : EnvT w) (hs : Small s.lines) (hf : Fits s.lines) (hts : t.size ≤ 1000000) :
  Calls zV 67 #[stV v s, .string t] w (StSaid (keyS s (vX s t)) w) := by
 obtain ⟨W1, hW1, hB, hz, k0, k1, k2⟩ := zCU w v s (.string t) 9;have HB : Hid (∀ W, Below W1.heap.size W1 W → W.heap[w.heap.size]? = some (.cells #[v, .int .i64 s.anc.line, .int .i64 s.anc.col, .int .i64 s.foc.line, .int .i64 s.foc.col, .int .i64 s.on, .int .i64 s.off] 26) ∧ W.heap[w.heap.size + 2]? = some (.cells #[.slice none 0 0, .int .i64 0, .int .i64 0, .int .i64 0, .int .i64 0, .int .i64 0, .int .i64 0] 26)) := zA fun W hW => ⟨zX hW k0, zX hW k2⟩;have hs1 := hB.size;have H1 := zA hB
 have HC := zA (zBL v s 108 #[.pointer (some ⟨w.heap.size + 1, 0, none⟩), .pointer (some ⟨w.heap.size, 0, none⟩)] (vX s t) W1 S (h.below (zZ _) hB) (he.below hB) hs hf (enters_of Tryz.func108 zT rfl)
  (fun hm n W a c hW h1 h2 h3 => zIZ (w.heap.size + 1) w.heap.size v s t n a c W S (zX hW k1) (zX hW k0) (h.below (zZ _) (hB.trans (hW.mono hs1))) ((he.below hB).below hW) hs hf hm h3 h2 hts))
 obtain ⟨X, hX⟩ : ∃ X, keyS s (vX s t) = X := ⟨_, rfl⟩;rw [hX] at HC ⊢;obtain ⟨p0, f0⟩ := blk k0;obtain ⟨p1, f1⟩ := blk k1;obtain ⟨p2, f2⟩ := blk k2;obtain ⟨va, vc, rfl⟩ := h.slice;clear h he hs hf hX k0 k1 k2 hB;go_enter Tryz.func67, Tryz.ntmps67;go_wp2_with (go_at_call 107; refine HC.out.mono ?_; intro e w2 hsaid; obtain ⟨v2, rfl, hv2, hb2⟩ := hsaid; obtain ⟨a2, c2, rfl⟩ := hv2.slice; have HV2 := zA hv2; clear hv2; obtain ⟨q2, g2⟩ := blk (HB.out _ hb2).2);refine zM (jQ rfl _ _ (w.heap.size + 2) (.slice a2 X.1.lines.length c2) (.int .i64 X.1.anc.line) (.int .i64 X.1.anc.col) (.int .i64 X.1.foc.line) (.int .i64 X.1.foc.col) (.int .i64 X.1.on) (.int .i64 X.1.off) (.int .i64 X.2) rfl rfl yL) rfl ?_;have hfin := H1.out.trans (hb2.mono hs1);have hv2 := HV2.out;exact ⟨_, rfl, (qG (zZ _) hv2 jM (fun b h _ => jJ)), by ((with_reducible repeat' first | exact zE _ _ | assumption | refine zG ?_ ?_ _ | refine zH ?_ | refine qQ ?_ | refine zF ?_ ?_ _) <;> go_size)⟩
set_option maxRecDepth 100000 in
theorem zJi (O : Doc) (A : Ps) (n : Nat) (a : Option Addr) (c : Nat) (w : World) (h : DocR true w (fun b => n ≤ b) (.slice a O.length c) O) (hn : n ≤ w.heap.size) (he : EnvT w) (hs : Small O) (hf : Fits O) (hM : mayD O = true) (hA : isD O A = true) :
  Calls zV 114 #[.slice a O.length c, posV A] w (DocPB n (putK O A (if (xN O A).cells = [] then kO (xN O A) else none) (vM O A)) w) := by
 obtain ⟨i, p, l, rfl, hl, hp, hml, hla⟩ := zCc hM hA;rw [hla];obtain ⟨W1, hW1, hB, hz, k0, k1⟩ := vA w (.int .i64 i) (.int .i64 p) (.int .i64 0) (.int .i64 0);have hs1 := hB.size;obtain ⟨b, o, la, lc, ca, cc, rfl, hb0, hbz, hAt, hfr, cs, hcs⟩ := zBU (h.below hB) hl;have hfl := hf.2 l (vJ hl);have hsl := hs.2.2 l (vJ hl);have hil := (zK.1 hl).1;have hlen := (h.below hB).len;have hle := zAx hml;have HB : Hid (∀ W, Below W1.heap.size W1 W → W.heap[w.heap.size]? = some (.cells #[.int .i64 (⟨i, p⟩ : Ps).line, .int .i64 (⟨i, p⟩ : Ps).col] 24) ∧ W.heap[w.heap.size + 1]? = some (.cells #[.int .i64 0, .int .i64 0] 24)) := zA fun W hW => ⟨zX hW k0, zX hW k1⟩;have hw0 : Below W1.heap.size W1 W1 := zE _ _;have HOu : Hid (∀ W, Below W1.heap.size W1 W → Calls zV 115 #[.agg #[.int .i64 l.quote, .slice la l.lists.length lc, .int .i64 l.kind, .slice ca l.cells.length cc]] W (yT W (kO l))) := zA fun W hW => zCs l la ca lc cc W W1 (fun b => n ≤ b) hAt.listsR hAt.cellsR hW ((he.below hB).below hW) hfl hsl hml;have HSp : Hid (∀ W, Below W1.heap.size W1 W → Calls zV 116 #[.slice (some ⟨b, o, none⟩) O.length c, .agg #[.int .i64 i, .int .i64 p]] W (DocPSaid (vM O ⟨i, p⟩) W)) := zA fun W hW => zHk _ O ⟨i, p⟩ W (fun b => n ≤ b) (h.below (hB.trans (hW.mono hs1))).read ((he.below hB).below hW) hs hf;have HP : Hid (∀ p : Ps, posV p = .agg #[.int .i64 p.line, .int .i64 p.col]) := zA fun _ => rfl;rw [HP.out];have HO := zA h;have H1 := zA hB;have HN := zA hn;have HL := zA hl;have HAt := zA hAt;have HBN := zA hb0;have hAc := hAt;obtain ⟨_, c0, c1, c2, c3, _, _⟩ := hAt;have i0 : (0 : Int) ≤ (i : Int) := zR _;have i1 : (i : Int) < (O.length : Int) := by omega
 have n1 : ¬ b = w.heap.size := fun e => by rw [e] at hcs; rw [k0] at hcs; cases hcs
 have n2 : ¬ b = w.heap.size + 1 := fun e => by rw [e] at hcs; rw [k1] at hcs; cases hcs
 have HNb := zA (zB n1 n2);obtain ⟨p0, f0⟩ := blk k0;obtain ⟨ro, hro⟩ : ∃ r, kO l = r := ⟨_, rfl⟩;rw [hro] at HOu ⊢;obtain ⟨Y, q, er, hY⟩ : ∃ Y q er, vM O ⟨i, p⟩ = (Y, q, er) := ⟨_, _, _, rfl⟩;rw [hY] at HSp ⊢;unfold maxLen at hlen;have HCS := zA hcs
 have hcn : (Hid (l.cells = []) ∧ (((l.cells.length : Nat) : Int) == 0) = true) ∨ (((l.cells.length : Nat) : Int) == 0) = false := by
  by_cases e : l.cells = []
  ·exact .inl ⟨zA e, by rw [e]; rfl⟩
  ·have : l.cells.length ≠ 0 := fun e2 => e (List.length_eq_zero_iff.1 e2)
   exact .inr (by simp; exact e)
 cases ro with
 | none =>
  have HR : Hid (putK O ⟨i, p⟩ (if l.cells = [] then none else none) (Y, q, er) = (Y, q, er)) := zA (by rw [ite_self]; rfl);rw [HR.out];rcases hcn with ⟨HCE, hcn⟩ | hcn
  ·clear h hB k0 k1 hn he hs hf hM hA hl hla hY hro hcs hAc hfr
   go_enter Tryz.func114, Tryz.ntmps114
   go_wp2_with (first
    | (go_at_call 115; refine (HOu.out _ (hw0.alloc hw0.size _)).mono ?_; rintro e w3 ⟨_, hnone, hst3⟩; obtain rfl := hnone rfl; have hb3 := zW (hw0.alloc hw0.size _) hst3; have m3 := zX hst3 (jD _ _ rfl); have r3 := on1 m3; obtain ⟨t0, u0⟩ := blk1 (HB.out _ hb3).1; obtain ⟨t1, u1⟩ := blk1 (HB.out _ hb3).2; have z3 := hb3.size)
    | (go_at_call 116; refine (HSp.out _ (hb3.alloc hb3.size _)).mono ?_; intro e w4 hsaid; obtain ⟨v4, he4, hv4, hst4⟩ := hsaid; rw [HP.out] at he4; subst he4; have hb4 := zW (hb3.alloc hb3.size _) hst4; have HV4 := zA hv4; clear hv4; obtain ⟨q1, g1⟩ := blk (HB.out _ hb4).2))
   have hfin := H1.out.trans (hb4.mono hs1);refine zM (kK rfl _ _ (w.heap.size + 1) (.int .i64 q.line) (.int .i64 q.col) rfl (by simp [qR, qW, (HB.out _ hb4).2])) rfl ?_;have hv4 := HV4.out;have hn4 : n ≤ w.heap.size := HN.out;refine ⟨_, rfl, (qG (zZ _) hv4 jM (fun b h _ => jJ)), ?_⟩;refine Below.mono ?_ HN.out
   ((with_reducible repeat' first | exact zE _ _ | assumption | refine zG ?_ ?_ _ | refine zH ?_ | refine qQ ?_ | refine zF ?_ ?_ _) <;> go_size)
  ·clear h hB k0 k1 hn he hs hf hM hA hl hla hY hro hcs hAc hfr
   go_enter Tryz.func114, Tryz.ntmps114
   go_wp2_with (first
    | (go_at_call 115; refine (HOu.out _ (hw0.alloc hw0.size _)).mono ?_; rintro e w3 ⟨_, hnone, hst3⟩; obtain rfl := hnone rfl; have hb3 := zW (hw0.alloc hw0.size _) hst3; have m3 := zX hst3 (jD _ _ rfl); have r3 := on1 m3; obtain ⟨t0, u0⟩ := blk1 (HB.out _ hb3).1; obtain ⟨t1, u1⟩ := blk1 (HB.out _ hb3).2; have z3 := hb3.size)
    | (go_at_call 116; refine (HSp.out _ (hb3.alloc hb3.size _)).mono ?_; intro e w4 hsaid; obtain ⟨v4, he4, hv4, hst4⟩ := hsaid; rw [HP.out] at he4; subst he4; have hb4 := zW (hb3.alloc hb3.size _) hst4; have HV4 := zA hv4; clear hv4; obtain ⟨q1, g1⟩ := blk (HB.out _ hb4).2))
   have hfin := H1.out.trans (hb4.mono hs1);refine zM (kK rfl _ _ (w.heap.size + 1) (.int .i64 q.line) (.int .i64 q.col) rfl (by simp [qR, qW, (HB.out _ hb4).2])) rfl ?_;have hv4 := HV4.out;have hn4 : n ≤ w.heap.size := HN.out;refine ⟨_, rfl, (qG (zZ _) hv4 jM (fun b h _ => jJ)), ?_⟩;refine Below.mono ?_ HN.out
   ((with_reducible repeat' first | exact zE _ _ | assumption | refine zG ?_ ?_ _ | refine zH ?_ | refine qQ ?_ | refine zF ?_ ?_ _) <;> go_size)
 | some l' =>
  rcases hcn with ⟨HCE, hcn⟩ | hcn
  ·have HR : Hid (putK O ⟨i, p⟩ (if l.cells = [] then some l' else none) (Y, q, er) = (O.set i l', ⟨i, p⟩, 0)) := zA (by rw [if_pos HCE.out]; rfl)
   rw [HR.out];clear h hB k0 k1 hn he hs hf hM hA hl hla hY hro hcs hAc hfr;go_enter Tryz.func114, Tryz.ntmps114;go_wp2_with (go_at_call 115; refine (HOu.out _ (hw0.alloc hw0.size _)).mono ?_; rintro e w3 ⟨hsome, _, hst3⟩; obtain ⟨a', b', he', ha', hb'⟩ := hsome _ rfl; obtain ⟨a1, cc1, rfl⟩ := ha'.slice; obtain ⟨a2, cc2, rfl⟩ := hb'.slice; simp only [linV] at he'; subst he'; have hb3 := zW (hw0.alloc hw0.size _) hst3; have m3 := zX hst3 (jD _ _ rfl); have r3 := on1 m3; obtain ⟨t0, u0⟩ := blk1 (HB.out _ hb3).1; obtain ⟨t1, u1⟩ := blk1 (HB.out _ hb3).2; have z3 := hb3.size; have n5 : ¬ b = w3.heap.size := qC; have n6 : ¬ w3.heap.size = b := qC; have n7 : ¬ w.heap.size = b := (fun e => n1 e.symm); have n8 : ¬ w.heap.size + 1 = b := (fun e => n2 e.symm); obtain ⟨_, d0, d1, d2, d3, _, _⟩ := HAt.out.below hb3; have e0 := jP d0; have e1 := jP d1; have e2 := jP d2; have e3 := jP d3; have g3 := fun X k => (blk1 (zX hb3 HCS.out)).2 X k; have g4 := fun k => (blk (zX hb3 HCS.out)).2 k; have n9 : b < w3.heap.size := qC; have HAB := zA (zB ha' hb'); clear ha' hb');have hO3 : DocR true w3 (fun b => n ≤ b ∧ ¬ b = w.heap.size + 1) (.slice (some ⟨b, o, none⟩) O.length c) O := qG (zZ true) (SliceR.bounded (zZ true) HO.out) (Keeps.all (H1.out.trans (hb3.mono hs1))) (fun b h _ => ⟨h.1, fun e => by have := h.2; omega⟩);obtain ⟨W5, hW5, hD5, hk5, hz5, hb5⟩ := zDc hO3 HL.out l' (.slice a1 l'.lists.length cc1) (.slice a2 l'.cells.length cc2) (HAB.out.1.stable (jV _) (qM _ _) (fun b h _ => by have h' : (W1.alloc _).heap.size ≤ b := h; simp at h'; have := HN.out; exact ⟨by omega, by omega⟩)) (HAB.out.2.stable (jV _) (qM _ _) (fun b h _ => by have h' : (W1.alloc _).heap.size ≤ b := h; simp at h'; have := HN.out; exact ⟨by omega, by omega⟩));rw [hW5];have j0 := (hk5 w.heap.size (fun e => HNb.out.1 e.symm)).trans (HB.out _ hb3).1;have j1 := (hk5 (w.heap.size + 1) (fun e => HNb.out.2 e.symm)).trans (HB.out _ hb3).2;have HJ := zA (zB j1 (zB hD5 (zB (hb5 n HBN.out) hz5)));clear hk5 hD5 hb5 hW5 hO3 d0 d1 d2 d3 e0 e1 e2 e3 g3 g4 t0 t1 u0 u1 hz5;obtain ⟨p5, f5⟩ := blk1 j0;obtain ⟨p6, f6⟩ := blk1 j1;go_region;go_wp2_with fail;refine zM (kK rfl _ _ (w.heap.size + 1) (.int .i64 i) (.int .i64 p) rfl (by rw [xD]; simp [qR, qW, jH _ _ HJ.out.1])) rfl ?_;have hD5 := HJ.out.2.1;have hn5 : n ≤ w.heap.size := HN.out;have hfin : Below n w W5 := ((H1.out.trans (hb3.mono hs1)).mono hn5).trans HJ.out.2.2.1;have hzz := hfin.size;refine ⟨_, rfl, ?_, ?_⟩
   ·show DocR true _ _ (.slice (some ⟨b, o, none⟩) O.length c) (O.set i l')
    exact qG (zZ true) hD5 zDp (fun b h _ => h.1)
   ·((with_reducible repeat' first | exact zE _ _ | assumption | refine zG ?_ ?_ _ | refine zH ?_ | refine qQ ?_ | refine zF ?_ ?_ _) <;> go_size)
  ·have HR : Hid (putK O ⟨i, p⟩ (if l.cells = [] then some l' else none) (Y, q, er) = (Y, q, er)) := zA (by rw [if_neg (fun e => by rw [e] at hcn; exact absurd hcn qV)]; rfl)
   rw [HR.out];clear h hB k0 k1 hn he hs hf hM hA hl hla hY hro hcs hAc hfr;go_enter Tryz.func114, Tryz.ntmps114
   go_wp2_with (first
    | (go_at_call 115; refine (HOu.out _ (hw0.alloc hw0.size _)).mono ?_; rintro e w3 ⟨hsome, _, hst3⟩; obtain ⟨a', b', he', ha', hb'⟩ := hsome _ rfl; obtain ⟨a1, cc1, rfl⟩ := ha'.slice; obtain ⟨a2, cc2, rfl⟩ := hb'.slice; simp only [linV] at he'; subst he'; have hb3 := zW (hw0.alloc hw0.size _) hst3; have m3 := zX hst3 (jD _ _ rfl); have r3 := on1 m3; obtain ⟨t0, u0⟩ := blk1 (HB.out _ hb3).1; obtain ⟨t1, u1⟩ := blk1 (HB.out _ hb3).2; have z3 := hb3.size; have n5 : ¬ b = w3.heap.size := qC; have n6 : ¬ w3.heap.size = b := qC; have n7 : ¬ w.heap.size = b := (fun e => n1 e.symm); have n8 : ¬ w.heap.size + 1 = b := (fun e => n2 e.symm); obtain ⟨_, d0, d1, d2, d3, _, _⟩ := HAt.out.below hb3; have e0 := jP d0; have e1 := jP d1; have e2 := jP d2; have e3 := jP d3; have g3 := fun X k => (blk1 (zX hb3 HCS.out)).2 X k; have g4 := fun k => (blk (zX hb3 HCS.out)).2 k; have n9 : b < w3.heap.size := qC; have HAB := zA (zB ha' hb'); clear ha' hb')
    | (go_at_call 116; refine (HSp.out _ (hb3.alloc hb3.size _)).mono ?_; intro e w4 hsaid; obtain ⟨v4, he4, hv4, hst4⟩ := hsaid; rw [HP.out] at he4; subst he4; have hb4 := zW (hb3.alloc hb3.size _) hst4; have HV4 := zA hv4; clear hv4; obtain ⟨q1, g1⟩ := blk (HB.out _ hb4).2))
   have hfin := H1.out.trans (hb4.mono hs1);refine zM (kK rfl _ _ (w.heap.size + 1) (.int .i64 q.line) (.int .i64 q.col) rfl (by simp [qR, qW, (HB.out _ hb4).2])) rfl ?_;have hv4 := HV4.out;have hn4 : n ≤ w.heap.size := HN.out;refine ⟨_, rfl, (qG (zZ _) hv4 jM (fun b h _ => jJ)), ?_⟩;refine Below.mono ?_ HN.out
   ((with_reducible repeat' first | exact zE _ _ | assumption | refine zG ?_ ?_ _ | refine zH ?_ | refine qQ ?_ | refine zF ?_ ?_ _) <;> go_size)
set_option maxRecDepth 100000 in
theorem zFZ (v : Value) (s : St) (w : World) (S : Nat → Prop) (h : jE w S v s.lines) (he : EnvT w) (hs : Small s.lines) (hf : Fits s.lines) :
  Calls zV 70 #[stV v s] w (StSaid (keyS s (zCf s)) w) := by
 obtain ⟨W1, hW1, hB, hz, k0, k1⟩ := xE w v s;have HB : Hid (∀ W, Below W1.heap.size W1 W → W.heap[w.heap.size]? = some (.cells #[v, .int .i64 s.anc.line, .int .i64 s.anc.col, .int .i64 s.foc.line, .int .i64 s.foc.col, .int .i64 s.on, .int .i64 s.off] 26) ∧ W.heap[w.heap.size + 1]? = some (.cells #[.slice none 0 0, .int .i64 0, .int .i64 0, .int .i64 0, .int .i64 0, .int .i64 0, .int .i64 0] 26)) := zA fun W hW => ⟨zX hW k0, zX hW k1⟩;have hs1 := hB.size;have H1 := zA hB
 have HC := zA (zBL v s 114 #[] (zCf s) W1 S (h.below (zZ _) hB) (he.below hB) hs hf (enters_of Tryz.func114 zT rfl)
  (fun hm n W a c hW h1 h2 h3 => zJi (outS s) (qU s).1 n a c W h3 h2 ((he.below hB).below hW) (uT (vR hm).1).1 (uT (vR hm).1).2 (vR hm).1 (vR hm).2.2.1))
 obtain ⟨X, hX⟩ : ∃ X, keyS s (zCf s) = X := ⟨_, rfl⟩;rw [hX] at HC ⊢;obtain ⟨p0, f0⟩ := blk k0;obtain ⟨p1, f1⟩ := blk k1;obtain ⟨va, vc, rfl⟩ := h.slice;clear h he hs hf hX k0 k1 hB;go_enter Tryz.func70, Tryz.ntmps70;go_wp2_with (go_at_call 107; refine HC.out.mono ?_; intro e w2 hsaid; obtain ⟨v2, rfl, hv2, hb2⟩ := hsaid; obtain ⟨a2, c2, rfl⟩ := hv2.slice; have HV2 := zA hv2; clear hv2; obtain ⟨q2, g2⟩ := blk (HB.out _ hb2).2);refine zM (jQ rfl _ _ (w.heap.size + 1) (.slice a2 X.1.lines.length c2) (.int .i64 X.1.anc.line) (.int .i64 X.1.anc.col) (.int .i64 X.1.foc.line) (.int .i64 X.1.foc.col) (.int .i64 X.1.on) (.int .i64 X.1.off) (.int .i64 X.2) rfl rfl yL) rfl ?_;have hfin := H1.out.trans (hb2.mono hs1);have hv2 := HV2.out;exact ⟨_, rfl, (qG (zZ _) hv2 jM (fun b h _ => jJ)), by ((with_reducible repeat' first | exact zE _ _ | assumption | refine zG ?_ ?_ _ | refine zH ?_ | refine qQ ?_ | refine zF ?_ ?_ _) <;> go_size)⟩
end Go.Proofs.YtjgeadoncanheaaGreatDoor
