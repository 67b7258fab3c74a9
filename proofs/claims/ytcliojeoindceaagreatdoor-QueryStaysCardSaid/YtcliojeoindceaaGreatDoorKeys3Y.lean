/- Parts of the proof. -/
import Derived.Test.YtcliojeoindceaaGreatDoorStyToggleY
import Derived.Test.YtcliojeoindceaaGreatDoorDocPartY
import Derived.Test.YtcliojeoindceaaGreatDoorRunesY
import Derived.Test.YtcliojeoindceaaGreatDoorPartBaseY
import Derived.Test.YtcliojeoindceaaGreatDoorBlkEachY
import Derived.Test.YtcliojeoindceaaGreatDoorQryAllY
set_option linter.unusedVariables false
set_option linter.unusedSimpArgs false
set_option maxHeartbeats 8000000
namespace Go.Proofs.YtcliojeoindceaaGreatDoor
open Go.RowKit
open Go.Proofs.Qw
attribute [local go_sem] Oper.semAt_some
open _root_.Go.Lib renaming hid → zA
open _root_.And renaming intro → zB
open _root_.Go.RowKit.Below renaming refl → zE, setCell → zF, alloc → zG, drew → zH
open _root_.Go.BigFrame renaming wpQuiet_want → zI
open _root_.List renaming getElem?_eq_some_iff → zK
open _root_.Array renaming getElem?_eq_some_iff → zL
open _root_.Go renaming bodyPost_ret → zM
open _root_.Int renaming natCast_nonneg → zR
open _root_.Go.Act renaming put → zU
open _root_.Go.Proofs.Tryz renaming prog → zV
open _root_.Go.Proofs.YtcliojeoindceaaGreatDoor renaming jG → zX, jI → zY, jF → qG, jQ → qR, jO → qT
open _root_.Go.Proofs.Qw renaming jW → qB, jZ → qC, kG → qL
open _root_.Go.Proofs.Qw.SliceR renaming stable → qH
open _root_.Go.Proofs.Qw.Keeps renaming refl → qN, alloc → qO, drew → qP, set → qQ
theorem zLz (l : Lin) (d : Doc) : flat (l :: d) = l.cells ++ flat d := by simp [flat]
set_option maxRecDepth 100000 in
theorem zIU (v : Value) (s : St) (w : World) (S : Nat → Prop) (h : jD w S v s.lines) (he : EnvT w) (hs : Small s.lines) (hf : Fits s.lines) (hm : mayS s = true) :
  Calls zV 144 #[stV v s] w fun e w' => e = .returned (.int .i64 (typB s)) ∧ Below w.heap.size w w' := by
 obtain ⟨W1, hW1, hB, hz, k0⟩ := vJ w v s;have HB : Hid (∀ W, Below W1.heap.size W1 W → W.heap[w.heap.size]? = some (.cells #[v, .int .i64 s.anc.line, .int .i64 s.anc.col, .int .i64 s.foc.line, .int .i64 s.foc.col, .int .i64 s.on, .int .i64 s.off] 26)) := zA fun W hW => zY hW k0;have hs1 := hB.size;have H1 := zA hB;have hw0 : Below W1.heap.size W1 W1 := zE _ _;have HV : Hid (∀ W, Below W1.heap.size W1 W → jD W S v s.lines) := zA fun W hW => h.below (qB _) (hB.trans (hW.mono hs1));have HE : Hid (∀ W, Below W1.heap.size W1 W → EnvT W) := zA fun W hW => (he.below hB).below hW;have HSp : Hid (∀ W, Below W1.heap.size W1 W → Calls zV 114 #[stV v s] W fun e w' => e = .returned (.tuple #[.agg #[.int .i64 (qV s).1.line, .int .i64 (qV s).1.col], .agg #[.int .i64 (qV s).2.line, .int .i64 (qV s).2.col]]) ∧ Below W.heap.size W w') := zA fun W hW => zAm v s W;obtain ⟨hMo, hsp, _, _, hiA⟩ := yX hm;obtain ⟨i, n, l, hA, hl, hnl, hml, hla⟩ := uM (yK hm).1 hiA;have HPt : Hid (∀ W, Below W1.heap.size W1 W → Calls zV 205 #[v, posV (qV s).1, posV (qV s).2] W (DocSaid (vB s.lines (qV s).1 (qV s).2) W)) := zA fun W hW => zFq v s.lines _ _ W S (HV.out W hW) (HE.out W hW) hs hf;have hfl := zKu hsp
 have hR : typB s = bits .or .i64 (bits .andNot .i64 (zAM (flat (vB s.lines (qV s).1 (qV s).2).1) (kV l.cells n).1) s.off) s.on := by
  unfold typB;rw [hfl, hla, hA]
  rfl
 have HR := zA hR;obtain ⟨px, pe, hpx⟩ : ∃ px pe, vB s.lines (qV s).1 (qV s).2 = (px, pe) := ⟨_, _, rfl⟩;rw [hpx] at HPt HR
 have HPL : Hid (px.length ≤ 1000000) := zA (by
  obtain ⟨_, i2, j2, p2, q2, _, _, e1, e2, g1, g2, _⟩ := vF hsp;have h9 := hsp;rw [e1, e2] at h9;have h8 := zJq h9;rw [← e1, ← e2, hpx] at h8;have := (zK.1 g2).1;have := hf.1;simp only at h8
  omega)
 obtain ⟨B, hBB⟩ : ∃ B, (qV s).2 = B := ⟨_, rfl⟩;rw [hA, hBB] at HSp HPt;have HP : Hid (∀ p : Ps, posV p = .agg #[.int .i64 p.line, .int .i64 p.col]) := zA fun _ => rfl;rw [HP.out, HP.out] at HPt;obtain ⟨x, y, hxy⟩ : ∃ x y, kV l.cells n = (x, y) := ⟨_, _, rfl⟩;rw [hxy] at HR;have HXY := zA hxy;have hil := (zK.1 hl).1;obtain ⟨va, vc, rfl, hvc, hvm, hx⟩ := xA h;obtain ⟨b, o, la, lc, ca, cc, rfl, hAt⟩ := hx i l hl;have HAT : Hid (∀ W, Below W1.heap.size W1 W → LinAt W S b (o + i * 4) l la lc ca cc) := zA fun W hW => hAt.below (hB.trans (hW.mono hs1));unfold maxLen at hvm;have i0 : (0 : Int) ≤ (i : Int) := zR _;have i1 : (i : Int) < (s.lines.length : Int) := by omega
 obtain ⟨p0, f0⟩ := blk k0;obtain ⟨r, hr⟩ : ∃ r, typB s = r := ⟨_, rfl⟩;rw [hr] at HR ⊢;clear hr h he hs hf hm hMo hsp hiA hl hml hla hA hfl hpx hBB hxy hx hAt k0 hB hR;go_enter Tryz.func144, Tryz.ntmps144;go_wp2_with (go_at_call 114; refine (HSp.out _ hw0).mono ?_; rintro e w2 ⟨rfl, hb2⟩; obtain ⟨q0, g0⟩ := blk (HB.out _ hb2));obtain ⟨w3, hw3⟩ : ∃ w3, (w2.alloc (.cells #[.int .i64 i, .int .i64 n] 24)).alloc (.cells #[.int .i64 B.line, .int .i64 B.col] 24) = w3 := ⟨_, rfl⟩;rw [hw3];have hb23 : Below w2.heap.size w2 w3 := hw3 ▸ ((zE _ _).alloc (Nat.le_refl _) _).alloc qF _;have n3 : w3.heap[w2.heap.size]? = some (.cells #[.int .i64 i, .int .i64 n] 24) := hw3 ▸ jK _ _ (qG _ _ rfl);have n4 : w3.heap[w2.heap.size + 1]? = some (.cells #[.int .i64 B.line, .int .i64 B.col] 24) := hw3 ▸ qG _ _ qF;have hb3 := zX hb2 hb23;have HB3 : Hid (∀ W, Below w3.heap.size w3 W → W.heap[w2.heap.size]? = some (.cells #[.int .i64 i, .int .i64 n] 24) ∧ W.heap[w2.heap.size + 1]? = some (.cells #[.int .i64 B.line, .int .i64 B.col] 24)) := zA fun W hW => ⟨zY hW n3, zY hW n4⟩
 have HAr : Hid (∀ W, Below w3.heap.size w3 W → Calls zV 141 #[.slice ca l.cells.length cc, .int .i64 n] W fun e w' => e = .returned (.tuple #[.int .i64 x, .string ⟨y.toArray⟩]) ∧ Below W.heap.size W w') := zA fun W hW => by
  have := zDJ _ l.cells n W S (HAT.out W (zX hb3 hW)).cellsR hnl;rw [HXY.out] at this;exact this
 clear n3 n4 q0 g0 p0 f0 hw3;refine xN w3.heap.size zT zT ?_;refine zI zT (fun K hK => ?_);refine qL ?_ (fun W hW => ?_) (hK _ ?_);rotate_left 1
 ·skip
  go_simp
  try rfl
 clear hK;clear K;try simp only [zU, qI, qX, qY]
 refine zI zT (fun K hK => ?_);refine qL ?_ (fun W hW => ?_) (hK _ ?_);rotate_left 1
 ·skip
  obtain ⟨p0, f0⟩ := blk (HB.out _ (zX hb3 hW));obtain ⟨p3, f3⟩ := blk (HB3.out _ hW).1;obtain ⟨_, _, _, _, c3, _, _⟩ := HAT.out _ (zX hb3 hW);go_simp
  try rfl
 clear hK;clear K;try simp only [zU, qI, qX, qY]
 refine zI zT (fun K hK => ?_);refine qL ?_ (fun W hW => ?_) (hK _ ?_);rotate_left 1
 ·skip
  go_simp
  try rfl
 clear hK;clear K;try simp only [zU, qI, qX, qY]
 refine zI zT (fun K hK => ?_);refine qL ?_ (fun W hW => ?_) (hK _ ?_);rotate_left 1
 ·skip
  obtain ⟨p0, f0⟩ := blk (HB.out _ (zX hb3 hW));obtain ⟨p3, f3⟩ := blk (HB3.out _ hW).1;obtain ⟨_, _, _, _, c3, _, _⟩ := HAT.out _ (zX hb3 hW);go_simp
  try rfl
 clear hK;clear K;try simp only [zU, qI, qX, qY]
 refine zI zT (fun K hK => ?_);refine qL ?_ (fun W hW => ?_) (hK _ ?_);rotate_left 1
 ·skip
  go_simp
  try rfl
 clear hK;clear K;try simp only [zU, qI, qX, qY]
 refine zI zT (fun K hK => ?_);refine qL ?_ (fun W hW => ?_) (hK _ ?_);rotate_left 1
 ·skip
  go_simp
  try rfl
 clear hK;clear K;try simp only [zU, qI, qX, qY]
 refine zI zT (fun K hK => ?_);refine qL ?_ (fun W hW => ?_) (hK _ ?_);rotate_left 1
 ·skip
  obtain ⟨p0, f0⟩ := blk (HB.out _ (zX hb3 hW));obtain ⟨p3, f3⟩ := blk (HB3.out _ hW).1;obtain ⟨_, _, _, _, c3, _, _⟩ := HAT.out _ (zX hb3 hW);go_simp
  try rfl
 clear hK;clear K;try simp only [zU, qI, qX, qY]
 refine zI zT (fun K hK => ?_);refine qL ?_ (fun W hW => ?_) (hK _ ?_);rotate_left 1
 ·skip
  go_simp
  try rfl
 clear hK;clear K;try simp only [zU, qI, qX, qY]
 refine zI zT (fun K hK => ?_);refine qL ?_ (fun W hW => ?_) (hK _ ?_);rotate_left 1
 ·skip
  obtain ⟨p0, f0⟩ := blk (HB.out _ (zX hb3 hW));obtain ⟨p3, f3⟩ := blk (HB3.out _ hW).1;obtain ⟨_, _, _, _, c3, _, _⟩ := HAT.out _ (zX hb3 hW);go_simp
  try rfl
 clear hK;clear K;try simp only [zU, qI, qX, qY]
 refine zI zT (fun K hK => ?_);refine uJ (f := ?_) (args := ?_) ?_ (fun W hW => ?_) (fun W hW => ?_) (hK _ ?_);rotate_left 3
 ·go_simp
  constructor <;> rfl
 ·refine (HAr.out _ hW).mono ?_
  rintro e W2 ⟨rfl, hbW⟩;refine ⟨?_, zX hW hbW⟩
  rfl
 clear hK;clear K;try simp only [zU, qI, qX, qY]
 refine zI zT (fun K hK => ?_);refine qL ?_ (fun W hW => ?_) (hK _ ?_);rotate_left 1
 ·skip
  go_simp
  try rfl
 clear hK;clear K;try simp only [zU, qI, qX, qY]
 refine zI zT (fun K hK => ?_);refine qL ?_ (fun W hW => ?_) (hK _ ?_);rotate_left 1
 ·skip
  go_simp
  try rfl
 clear hK;clear K;try simp only [zU, qI, qX, qY]
 refine zI zT (fun K hK => ?_);refine qL ?_ (fun W hW => ?_) (hK _ ?_);rotate_left 1
 ·skip
  go_simp
  try rfl
 clear hK;clear K;try simp only [zU, qI, qX, qY]
 refine zI zT (fun K hK => ?_);refine qL ?_ (fun W hW => ?_) (hK _ ?_);rotate_left 1
 ·skip
  go_simp
  try rfl
 clear hK;clear K;try simp only [zU, qI, qX, qY]
 refine zI zT (fun K hK => ?_);refine qL ?_ (fun W hW => ?_) (hK _ ?_);rotate_left 1
 ·skip
  go_simp
  try rfl
 clear hK;clear K;try simp only [zU, qI, qX, qY]
 refine wpQuiet_nil (fun X6 hstX6 => ?_);have hcX6 := zX hb3 hstX6;obtain ⟨p0, f0⟩ := blk (HB.out _ hcX6);obtain ⟨p3, f3⟩ := blk (HB3.out _ hstX6).1;obtain ⟨p4, f4⟩ := blk (HB3.out _ hstX6).2;go_wp2_with (go_at_call 205; refine (HPt.out _ hcX6).mono ?_; intro e w7 hsaid; obtain ⟨v7, rfl, hv7, hst7⟩ := hsaid; obtain ⟨a7, c7, rfl, hc7, hm7, hx7⟩ := xA hv7.read; have HX := zA hx7; clear hv7 hx7);have hb7 := zX hcX6 hst7;have HK0 := zA hb7;unfold maxLen at hm7;have hpl := HPL.out;clear p0 f0 p3 f3 p4 f4;go_loopw [5, 39] (fun bb z wr => ∃ k : Nat, k ≤ px.length ∧ z = .int .i64 k ∧ bb = .int .i64 x ∧ Hid (zAM (flat px) x = zAM (flat (px.drop k)) x) ∧ Below w7.heap.size w7 wr) (fun _ z _ => px.length - (intOf z).toNat)
 case atStart => exact ⟨0, Nat.zero_le _, rfl, rfl, zA rfl, zE _ _⟩
 case round =>
  obtain ⟨k, hk, rfl, rfl, HK, hb⟩ := hrel;have hbw := zX hb7 hb
  by_cases hlt : k < px.length
  ·obtain ⟨ln, hln, hdr⟩ := jP px k hlt
   obtain ⟨b1, o1, la1, lc1, ca1, cc1, rfl, hAk⟩ := HX.out k ln hln;obtain ⟨_, d0, d1, d2, d3, _, hcR⟩ := hAk.below hb;rw [hdr, zLz] at HK;have k0' : (0 : Int) ≤ (k : Int) := zR _;have k1' : (k : Int) < (px.length : Int) := by omega
   cases hce : ln.cells with
   | nil =>
    rw [hce] at d3 HK;rw [List.nil_append] at HK;simp only [List.length_nil] at d3;clear hcR hAk hln hdr hce;go_wp2_with fail;go_roundw
    case rel => exact ⟨k + 1, hlt, by go_num, rfl, HK, hb.alloc hb.size _⟩
    case measure => simp [intOf]; omega
   | cons cel cels =>
    rw [hce] at d3 HK hcR;obtain ⟨a9, c9, e9, _, _, hx9⟩ := uT hcR;cases e9;obtain ⟨b9, o9, rfl, hz9, u0, u1, u2⟩ := hx9 0 cel rfl;rw [Nat.zero_mul, Nat.add_zero] at u0 u1 u2;have u1' : ∀ X, (wr.alloc X).cell? ⟨b9, o9 + 1, none⟩ = some (.int .i64 cel.bits) := fun X => (World.cell?_of_block (heap_alloc_old _ _ hz9)).trans u1;have hp1 : (0 : Int) < (((cel :: cels).length : Nat) : Int) := by simp
    have hp2 : 0 < (cel :: cels).length := by simp
    have HKK : Hid (zAM (flat px) x = cel.bits) := zA (HK.out.trans rfl);obtain ⟨m, hm⟩ : ∃ m, (cel :: cels).length = m := ⟨_, rfl⟩;rw [hm] at d3 hp1 hp2;have r0 := on1 (HB.out _ hbw);clear hcR hAk hln hdr hce HK hx9 u0 u1 u2;go_wp2_with fail;go_ret;rw [HR.out, HKK.out];exact ⟨rfl, H1.out.trans ((hbw.alloc hbw.size _).mono hs1)⟩
  ·obtain rfl : k = px.length := by omega
   have HKK : Hid (zAM (flat px) x = x) := zA (by have := HK.out; rw [List.drop_length] at this; exact this);obtain ⟨p0, f0⟩ := blk (HB.out _ hbw);clear HK;go_wp2_with fail;go_ret;rw [HR.out, HKK.out];exact ⟨rfl, H1.out.trans (hbw.mono hs1)⟩
set_option maxRecDepth 100000 in
theorem zKO (Bt Bs : Nat) (v : Value) (s : St) (t : ByteArray) (n : Nat) (a : Option Addr) (c : Nat) (w : World) (S : Nat → Prop) (ht : w.heap[Bt]? = some (.cells #[.string t] 9)) (hst : w.heap[Bs]? = some (.cells #[v, .int .i64 s.anc.line, .int .i64 s.anc.col, .int .i64 s.foc.line, .int .i64 s.foc.col, .int .i64 s.on, .int .i64 s.off] 26)) (hv : jD w S v s.lines) (he : EnvT w) (hs : Small s.lines) (hf : Fits s.lines) (hm : mayS s = true)
  (h : DocR true w (fun b => n ≤ b) (.slice a (outS s).length c) (outS s)) (hn : n ≤ w.heap.size) (hts : t.size ≤ 1000000) :
  Calls zV 139 #[.slice a (outS s).length c, posV (qV s).1, .pointer (some ⟨Bt, 0, none⟩), .pointer (some ⟨Bs, 0, none⟩)] w (DocPB n (vT s t) w) := by
 obtain ⟨hMo, hsp, hiO, _, hiA⟩ := yX hm;obtain ⟨i, p, l, hA, hl, hpl, hml, hla⟩ := uM hMo hiO;have hso := (uK hMo).1;have hfo := (uK hMo).2;obtain ⟨x, y, hxy⟩ : ∃ x y, kV l.cells p = (x, y) := ⟨_, _, rfl⟩
 have hyl : y.length ≤ 1000000 := by
  have h9 : (kV l.cells p).2 = y := by rw [hxy]
  rw [← h9];unfold kV;simp only
  split
  ·rename_i h1
   have hme : (l.cells.getD (p - 1) default) ∈ l.cells := by
    rw [List.getD_eq_getElem?_getD, List.getElem?_eq_getElem (show p - 1 < l.cells.length by omega)];exact List.getElem_mem _
   exact hso.2.2 l (yI hl) _ hme
  ·simp
 have HR : Hid (vT s t = if 8192 < t.size then ([], ⟨i, p⟩, 10) else if xV t = [] then ([], ⟨i, p⟩, 7) else kQ (cellsOf (xV t) (typB s) y) (outS s) ⟨i, p⟩) := zA (by
  unfold vT;rw [hla, hA];simp only [Int.toNat_natCast];rw [hxy])
 have hcl : (xV t).length ≤ t.size := Nat.le_trans (List.length_filterMap_le _ _) (zDo t);have HXY := zA hxy;have HOL := zA hl;obtain ⟨O, hO⟩ : ∃ O, outS s = O := ⟨_, rfl⟩;rw [hO] at h hl hso hfo HR HOL;rw [hO, hA];obtain ⟨W1, hW1, hB, hz, k0, k1⟩ := vX w (.int .i64 i) (.int .i64 p) (.int .i64 0) (.int .i64 0);have hs1 := hB.size;have kt := zY hB ht;have ks := zY hB hst;have HB : Hid (∀ W, Below W1.heap.size W1 W → W.heap[w.heap.size]? = some (.cells #[.int .i64 (⟨i, p⟩ : Ps).line, .int .i64 (⟨i, p⟩ : Ps).col] 24) ∧ W.heap[w.heap.size + 1]? = some (.cells #[.int .i64 0, .int .i64 0] 24) ∧ W.heap[Bt]? = some (.cells #[.string t] 9) ∧ W.heap[Bs]? = some (.cells #[v, .int .i64 s.anc.line, .int .i64 s.anc.col, .int .i64 s.foc.line, .int .i64 s.foc.col, .int .i64 s.on, .int .i64 s.off] 26)) := zA fun W hW => ⟨zY hW k0, zY hW k1, zY hW kt, zY hW ks⟩;have hw0 : Below W1.heap.size W1 W1 := zE _ _;have hE1 := he.below hB;have HCln : Hid (∀ W, Below W1.heap.size W1 W → Calls zV 140 #[.string t] W fun e w' => ∃ v, e = .returned v ∧ zBZ true w' (fun b => W.heap.size ≤ b) v (xV t) ∧ Below W.heap.size W w') := zA fun W _ => zGu t W qD;have HBi : Hid (∀ W, Below W1.heap.size W1 W → Calls zV 144 #[stV v s] W fun e w' => e = .returned (.int .i64 (typB s)) ∧ Below W.heap.size W w') := zA fun W hW => zIU v s W S (hv.below (qB _) (hB.trans (hW.mono hs1))) (hE1.below hW) hs hf hm;have HOf : Hid (∀ b W, Below W1.heap.size W1 W → Calls zV 143 #[.string t, .int .i64 b, .string ⟨y.toArray⟩] W fun e w' => ∃ v, e = .returned v ∧ jE true w' (fun b => W.heap.size ≤ b) v (cellsOf (xV t) b y) ∧ Below W.heap.size W w') := zA fun b W _ => zJI t b y W qD
 have HIn : Hid (∀ b lv S2 W, Below W1.heap.size W1 W → jE false W S2 lv (cellsOf (xV t) b y) → Calls zV 142 #[.slice a O.length c, .agg #[.int .i64 i, .int .i64 p], lv] W (DocPSaid (kQ (cellsOf (xV t) b y) O ⟨i, p⟩) W)) := zA fun b lv S2 W hW hlv => zIa _ lv O _ ⟨i, p⟩ W (fun b => n ≤ b) S2 (h.below (hB.trans (hW.mono hs1))).read hlv (hE1.below hW) hso hfo (by unfold cellsOf; rw [List.length_map]; omega) (fun c hc => by
  unfold cellsOf at hc;obtain ⟨r, _, rfl⟩ := List.mem_map.1 hc;exact hyl)
 obtain ⟨a', c', ee, hvc, hvm, hx⟩ := xA (h.below hB).read;cases ee;obtain ⟨b, o, la, lc, ca, cc, rfl, hAt⟩ := hx i l hl;have HAT : Hid (∀ W, Below W1.heap.size W1 W → LinAt W (fun b => n ≤ b) b (o + i * 4) l la lc ca cc) := zA fun W hW => hAt.below hW
 have HAr : Hid (∀ W, Below W1.heap.size W1 W → Calls zV 141 #[.slice ca l.cells.length cc, .int .i64 p] W fun e w' => e = .returned (.tuple #[.int .i64 x, .string ⟨y.toArray⟩]) ∧ Below W.heap.size W w') := zA fun W hW => by
  have := zDJ _ l.cells p W _ (HAT.out W hW).cellsR hpl;rw [HXY.out] at this;exact this
 have hil := (zK.1 hl).1;unfold maxLen at hvm;have i0 : (0 : Int) ≤ (i : Int) := zR _;have i1 : (i : Int) < (O.length : Int) := by omega
 have HP : Hid (∀ p : Ps, posV p = .agg #[.int .i64 p.line, .int .i64 p.col]) := zA fun _ => rfl;rw [HP.out];have H1 := zA hB;have HN := zA hn;have HK := zA k1;have hBt := (zL.1 ht).1;have hBs := (zL.1 hst).1;have e1 : ¬ Bt = w.heap.size := by omega
 have e2 : ¬ Bt = w.heap.size + 1 := by omega
 have e3 : ¬ Bs = w.heap.size := by omega
 have e4 : ¬ Bs = w.heap.size + 1 := by omega
 have e5 : ¬ w.heap.size + 1 = Bt := by omega
 have e6 : ¬ w.heap.size + 1 = Bs := by omega
 obtain ⟨p0, f0⟩ := blk k0;obtain ⟨p1, f1⟩ := blk k1;obtain ⟨p2, f2⟩ := blk kt;obtain ⟨va, vc, rfl⟩ := hv.slice;obtain ⟨tb, htb⟩ : ∃ tb, typB s = tb := ⟨_, rfl⟩;rw [htb] at HBi HR;obtain ⟨cl, hcl2⟩ : ∃ cl, xV t = cl := ⟨_, rfl⟩;rw [hcl2] at HCln HOf HIn HR hcl;have HOf := zA (fun W hW => HOf.out tb W hW);have HIn := zA (fun lv S2 W hW h9 => HIn.out tb lv S2 W hW h9);clear ht hst hv he hs hf hm h hn hMo hsp hiO hiA hA hl hpl hml hla hso hfo hxy hyl hO k0 k1 kt ks hB hE1 hx hAt htb hcl2
 by_cases h8 : 8192 < t.size
 ·have HR := zA (HR.out.trans (if_pos h8))
  have h8i : (8192 : Int) < (t.size : Int) := by omega
  go_enter Tryz.func139, Tryz.ntmps139;go_wp2_with fail;go_region;go_wp2_with fail;refine zM (kT rfl _ _ (w.heap.size + 1) (.int .i64 i) (.int .i64 p) rfl (by rw [xS]; simp [qT, jA, HK.out])) rfl ?_;have hfin := H1.out;exact DocPB.err HR.out zAR HN.out
 have HR := zA (HR.out.trans (if_neg h8));have h8i : ¬ (8192 : Int) < (t.size : Int) := by omega
 by_cases hc0 : cl = []
 ·have HR := zA (HR.out.trans (if_pos hc0))
  have hcz : ((cl.length : Nat) : Int) = 0 := by rw [hc0]; rfl
  have hcz2 : (((cl.length : Nat) : Int) == 0) = true := by rw [hcz]; rfl
  clear hc0 hcz;go_enter Tryz.func139, Tryz.ntmps139;go_wp2_with (go_at_call 140; refine (HCln.out _ hw0).mono ?_; rintro e w2 ⟨v2, rfl, hv2, hst2⟩; obtain ⟨a2, c2, rfl⟩ := hv2.slice; clear hv2; have hb2 := zX hw0 hst2; obtain ⟨q0, g0⟩ := blk (HB.out _ hb2).1; obtain ⟨q1, g1⟩ := blk (HB.out _ hb2).2.1; obtain ⟨q2, g2⟩ := blk (HB.out _ hb2).2.2.1);go_region;go_wp2_with fail;refine zM (kT rfl _ _ (w.heap.size + 1) (.int .i64 i) (.int .i64 p) rfl (by rw [xS]; simp [qT, jA, (HB.out _ hb2).2.1])) rfl ?_;have hfin := H1.out.trans (hb2.mono hs1);exact DocPB.err HR.out zAR HN.out
 have HR := zA (HR.out.trans (if_neg hc0))
 have hcz2 : (((cl.length : Nat) : Int) == 0) = false := by
  have : cl.length ≠ 0 := fun e => hc0 (List.length_eq_zero_iff.1 e)
  simp
  exact hc0
 clear hc0;obtain ⟨Y, q, er, hY⟩ : ∃ Y q er, kQ (cellsOf cl tb y) O ⟨i, p⟩ = (Y, q, er) := ⟨_, _, _, rfl⟩;rw [hY] at HIn HR;clear hY;go_enter Tryz.func139, Tryz.ntmps139;go_wp2_with (go_at_call 140; refine (HCln.out _ hw0).mono ?_; rintro e w2 ⟨v2, rfl, hv2, hst2⟩; obtain ⟨a2, c2, rfl⟩ := hv2.slice; clear hv2; have hb2 := zX hw0 hst2; obtain ⟨q0, g0⟩ := blk (HB.out _ hb2).1; obtain ⟨q1, g1⟩ := blk (HB.out _ hb2).2.1; obtain ⟨q2, g2⟩ := blk (HB.out _ hb2).2.2.1);refine xN w2.heap.size zT zT ?_;refine zI zT (fun K hK => ?_);refine qL ?_ (fun W hW => ?_) (hK _ ?_);rotate_left 1
 ·skip
  go_simp
  try rfl
 clear hK;clear K;try simp only [zU, qI, qX, qY]
 refine zI zT (fun K hK => ?_);refine qL ?_ (fun W hW => ?_) (hK _ ?_);rotate_left 1
 ·skip
  go_simp
  try rfl
 clear hK;clear K;try simp only [zU, qI, qX, qY]
 refine zI zT (fun K hK => ?_);refine qL ?_ (fun W hW => ?_) (hK _ ?_);rotate_left 1
 ·skip
  obtain ⟨p0, f0⟩ := blk (HB.out _ (zX hb2 hW)).1;obtain ⟨_, _, _, _, c3, _, _⟩ := HAT.out _ (zX hb2 hW);go_simp
  try rfl
 clear hK;clear K;try simp only [zU, qI, qX, qY]
 refine zI zT (fun K hK => ?_);refine qL ?_ (fun W hW => ?_) (hK _ ?_);rotate_left 1
 ·skip
  go_simp
  try rfl
 clear hK;clear K;try simp only [zU, qI, qX, qY]
 refine zI zT (fun K hK => ?_);refine qL ?_ (fun W hW => ?_) (hK _ ?_);rotate_left 1
 ·skip
  go_simp
  try rfl
 clear hK;clear K;try simp only [zU, qI, qX, qY]
 refine zI zT (fun K hK => ?_);refine qL ?_ (fun W hW => ?_) (hK _ ?_);rotate_left 1
 ·skip
  obtain ⟨p0, f0⟩ := blk (HB.out _ (zX hb2 hW)).1;obtain ⟨_, _, _, _, c3, _, _⟩ := HAT.out _ (zX hb2 hW);go_simp
  try rfl
 clear hK;clear K;try simp only [zU, qI, qX, qY]
 refine zI zT (fun K hK => ?_);refine qL ?_ (fun W hW => ?_) (hK _ ?_);rotate_left 1
 ·skip
  go_simp
  try rfl
 clear hK;clear K;try simp only [zU, qI, qX, qY]
 refine zI zT (fun K hK => ?_);refine qL ?_ (fun W hW => ?_) (hK _ ?_);rotate_left 1
 ·skip
  obtain ⟨p0, f0⟩ := blk (HB.out _ (zX hb2 hW)).1;obtain ⟨_, _, _, _, c3, _, _⟩ := HAT.out _ (zX hb2 hW);go_simp
  try rfl
 clear hK;clear K;try simp only [zU, qI, qX, qY]
 refine zI zT (fun K hK => ?_);refine uJ (f := ?_) (args := ?_) ?_ (fun W hW => ?_) (fun W hW => ?_) (hK _ ?_);rotate_left 3
 ·go_simp
  constructor <;> rfl
 ·refine (HAr.out _ (zX hb2 hW)).mono ?_
  rintro e W2 ⟨rfl, hbW⟩;refine ⟨?_, zX hW hbW⟩
  rfl
 clear hK;clear K;try simp only [zU, qI, qX, qY]
 refine zI zT (fun K hK => ?_);refine qL ?_ (fun W hW => ?_) (hK _ ?_);rotate_left 1
 ·skip
  go_simp
  try rfl
 clear hK;clear K;try simp only [zU, qI, qX, qY]
 refine zI zT (fun K hK => ?_);refine qL ?_ (fun W hW => ?_) (hK _ ?_);rotate_left 1
 ·skip
  go_simp
  try rfl
 clear hK;clear K;try simp only [zU, qI, qX, qY]
 refine zI zT (fun K hK => ?_);refine qL ?_ (fun W hW => ?_) (hK _ ?_);rotate_left 1
 ·skip
  go_simp
  try rfl
 clear hK;clear K;try simp only [zU, qI, qX, qY]
 refine zI zT (fun K hK => ?_);refine qL ?_ (fun W hW => ?_) (hK _ ?_);rotate_left 1
 ·skip
  go_simp
  try rfl
 clear hK;clear K;try simp only [zU, qI, qX, qY]
 refine zI zT (fun K hK => ?_);refine qL ?_ (fun W hW => ?_) (hK _ ?_);rotate_left 1
 ·skip
  go_simp
  try rfl
 clear hK;clear K;try simp only [zU, qI, qX, qY]
 refine wpQuiet_nil (fun X6 hstX6 => ?_);have hcX6 := zX hb2 hstX6;clear p0 f0 p1 f1 p2 f2 q0 g0 q1 g1 q2 g2;obtain ⟨p0, f0⟩ := blk (HB.out _ hcX6).1;obtain ⟨p1, f1⟩ := blk (HB.out _ hcX6).2.1;obtain ⟨p2, f2⟩ := blk (HB.out _ hcX6).2.2.1;obtain ⟨p3, f3⟩ := blk (HB.out _ hcX6).2.2.2;have hd6 : Below W1.heap.size W1 X6.drew := hcX6.drew;go_wp2_with fail
 go_region_held3 (fun w' => w'.cell? ⟨w.heap.size, 0, none⟩ = some (.int .i64 i) ∧ w'.cell? ⟨w.heap.size, 1, none⟩ = some (.int .i64 p) ∧ w'.cell? ⟨Bt, 0, none⟩ = some (.string t) ∧ w'.cell? ⟨Bs, 0, none⟩ = some (.slice va s.lines.length vc) ∧ w'.cell? ⟨Bs, 1, none⟩ = some (.int .i64 s.anc.line) ∧ w'.cell? ⟨Bs, 2, none⟩ = some (.int .i64 s.anc.col) ∧ w'.cell? ⟨Bs, 3, none⟩ = some (.int .i64 s.foc.line) ∧ w'.cell? ⟨Bs, 4, none⟩ = some (.int .i64 s.foc.col) ∧ w'.cell? ⟨Bs, 5, none⟩ = some (.int .i64 s.on) ∧ w'.cell? ⟨Bs, 6, none⟩ = some (.int .i64 s.off)) (go_keep)
  ((first
   | (go_at_call 144; refine (HBi.out _ hd6).mono ?_; rintro e w7 ⟨rfl, hst7⟩; have hb7 := zX hd6 hst7; obtain ⟨r0, s0⟩ := blk (HB.out _ hb7).1; obtain ⟨r1, s1⟩ := blk (HB.out _ hb7).2.1; obtain ⟨r2, s2⟩ := blk (HB.out _ hb7).2.2.1; obtain ⟨r3, s3⟩ := blk (HB.out _ hb7).2.2.2)
   | (go_at_call 143; refine (HOf.out _ hb7).mono ?_; rintro e w8 ⟨v8, rfl, hv8, hst8⟩; have hb8 := zX hb7 hst8; have HI8 := zA (fun W hW => HIn.out v8 (fun b => w7.heap.size ≤ b) W hW); have HV8 := zA (SliceR.read (fun _ _ h => h) hv8); clear hv8; obtain ⟨r4, s4⟩ := blk (HB.out _ hb8).1; obtain ⟨r5, s5⟩ := blk (HB.out _ hb8).2.1; obtain ⟨r6, s6⟩ := blk (HB.out _ hb8).2.2.1; obtain ⟨r7, s7⟩ := blk (HB.out _ hb8).2.2.2)
   | (go_at_call 142; refine (HI8.out _ hb8 HV8.out).mono ?_; intro e w9 hsaid; obtain ⟨v9, he9, hv9, hst9⟩ := hsaid; rw [HP.out] at he9; subst he9; have hb9 := zX hb8 hst9; have HV9 := zA hv9; clear hv9; obtain ⟨t0, u0⟩ := blk (HB.out _ hb9).1; obtain ⟨t1, u1⟩ := blk (HB.out _ hb9).2.1; obtain ⟨t2, u2⟩ := blk (HB.out _ hb9).2.2.1; obtain ⟨t3, u3⟩ := blk (HB.out _ hb9).2.2.2)))
 go_wp2_with fail;have hfin := H1.out.trans (hb9.mono hs1);refine zM (kT rfl _ _ (w.heap.size + 1) (.int .i64 q.line) (.int .i64 q.col) rfl (by simp [qT, jA, (HB.out _ hb9).2.1])) rfl ?_;rw [HR.out];have hv9 := HV9.out;have hz8 := hb8.size;have hn9 : n ≤ w.heap.size := HN.out;refine ⟨_, rfl, (qH (qB _) hv9 jN (fun b h _ => jL)), ?_⟩;refine Below.mono ?_ HN.out
 ((with_reducible repeat' first | exact zE _ _ | assumption | refine zG ?_ ?_ _ | refine zH ?_ | refine qR ?_ | refine zF ?_ ?_ _) <;> go_size)
set_option maxRecDepth 100000 in
theorem zFe (v : Value) (s : St) (t : ByteArray) (w : World) (S : Nat → Prop) (h : jD w S v s.lines) (he : EnvT w) (hs : Small s.lines) (hf : Fits s.lines) (hts : t.size ≤ 1000000) :
  Calls zV 72 #[stV v s, .string t] w (StSaid (keyS s (vT s t)) w) := by
 obtain ⟨W1, hW1, hB, hz, k0, k1, k2⟩ := zDO w v s (.string t) 9;have HB : Hid (∀ W, Below W1.heap.size W1 W → W.heap[w.heap.size]? = some (.cells #[v, .int .i64 s.anc.line, .int .i64 s.anc.col, .int .i64 s.foc.line, .int .i64 s.foc.col, .int .i64 s.on, .int .i64 s.off] 26) ∧ W.heap[w.heap.size + 2]? = some (.cells #[.slice none 0 0, .int .i64 0, .int .i64 0, .int .i64 0, .int .i64 0, .int .i64 0, .int .i64 0] 26)) := zA fun W hW => ⟨zY hW k0, zY hW k2⟩;have hs1 := hB.size;have H1 := zA hB
 have HC := zA (zCu v s 139 #[.pointer (some ⟨w.heap.size + 1, 0, none⟩), .pointer (some ⟨w.heap.size, 0, none⟩)] (vT s t) W1 S (h.below (qB _) hB) (he.below hB) hs hf (enters_of Tryz.func139 zT rfl)
  (fun hm n W a c hW h1 h2 h3 => zKO (w.heap.size + 1) w.heap.size v s t n a c W S (zY hW k1) (zY hW k0) (h.below (qB _) (hB.trans (hW.mono hs1))) ((he.below hB).below hW) hs hf hm h3 h2 hts))
 obtain ⟨X, hX⟩ : ∃ X, keyS s (vT s t) = X := ⟨_, rfl⟩;rw [hX] at HC ⊢;obtain ⟨p0, f0⟩ := blk k0;obtain ⟨p1, f1⟩ := blk k1;obtain ⟨p2, f2⟩ := blk k2;obtain ⟨va, vc, rfl⟩ := h.slice;clear h he hs hf hX k0 k1 k2 hB;go_enter Tryz.func72, Tryz.ntmps72;go_wp2_with (go_at_call 138; refine HC.out.mono ?_; intro e w2 hsaid; obtain ⟨v2, rfl, hv2, hb2⟩ := hsaid; obtain ⟨a2, c2, rfl⟩ := hv2.slice; have HV2 := zA hv2; clear hv2; obtain ⟨q2, g2⟩ := blk (HB.out _ hb2).2);refine zM (jS rfl _ _ (w.heap.size + 2) (.slice a2 X.1.lines.length c2) (.int .i64 X.1.anc.line) (.int .i64 X.1.anc.col) (.int .i64 X.1.foc.line) (.int .i64 X.1.foc.col) (.int .i64 X.1.on) (.int .i64 X.1.off) (.int .i64 X.2) rfl rfl vO) rfl ?_;have hfin := H1.out.trans (hb2.mono hs1);have hv2 := HV2.out;exact ⟨_, rfl, (qH (qB _) hv2 jN (fun b h _ => jL)), by ((with_reducible repeat' first | exact zE _ _ | assumption | refine zG ?_ ?_ _ | refine zH ?_ | refine qR ?_ | refine zF ?_ ?_ _) <;> go_size)⟩
set_option maxRecDepth 100000 in
theorem zKY (O : Doc) (A : Ps) (n : Nat) (a : Option Addr) (c : Nat) (w : World) (h : DocR true w (fun b => n ≤ b) (.slice a O.length c) O) (hn : n ≤ w.heap.size) (he : EnvT w) (hs : Small O) (hf : Fits O) (hM : mayD O = true) (hA : isD O A = true) :
  Calls zV 146 #[.slice a O.length c, posV A] w (DocPB n (putK O A (if (xC O A).cells = [] then kM (xC O A) else none) (kZ O A)) w) := by
 obtain ⟨i, p, l, rfl, hl, hp, hml, hla⟩ := uM hM hA;rw [hla];obtain ⟨W1, hW1, hB, hz, k0, k1⟩ := vX w (.int .i64 i) (.int .i64 p) (.int .i64 0) (.int .i64 0);have hs1 := hB.size;obtain ⟨b, o, la, lc, ca, cc, rfl, hb0, hbz, hAt, hfr, cs, hcs⟩ := zCD (h.below hB) hl;have hfl := hf.2 l (yI hl);have hsl := hs.2.2 l (yI hl);have hil := (zK.1 hl).1;have hlen := (h.below hB).len;have hle := zAV hml;have HB : Hid (∀ W, Below W1.heap.size W1 W → W.heap[w.heap.size]? = some (.cells #[.int .i64 (⟨i, p⟩ : Ps).line, .int .i64 (⟨i, p⟩ : Ps).col] 24) ∧ W.heap[w.heap.size + 1]? = some (.cells #[.int .i64 0, .int .i64 0] 24)) := zA fun W hW => ⟨zY hW k0, zY hW k1⟩;have hw0 : Below W1.heap.size W1 W1 := zE _ _;have HOu : Hid (∀ W, Below W1.heap.size W1 W → Calls zV 147 #[.agg #[.int .i64 l.quote, .slice la l.lists.length lc, .int .i64 l.kind, .slice ca l.cells.length cc]] W (vR W (kM l))) := zA fun W hW => zDf l la ca lc cc W W1 (fun b => n ≤ b) hAt.listsR hAt.cellsR hW ((he.below hB).below hW) hfl hsl hml;have HSp : Hid (∀ W, Below W1.heap.size W1 W → Calls zV 148 #[.slice (some ⟨b, o, none⟩) O.length c, .agg #[.int .i64 i, .int .i64 p]] W (DocPSaid (kZ O ⟨i, p⟩) W)) := zA fun W hW => zII _ O ⟨i, p⟩ W (fun b => n ≤ b) (h.below (hB.trans (hW.mono hs1))).read ((he.below hB).below hW) hs hf;have HP : Hid (∀ p : Ps, posV p = .agg #[.int .i64 p.line, .int .i64 p.col]) := zA fun _ => rfl;rw [HP.out];have HO := zA h;have H1 := zA hB;have HN := zA hn;have HL := zA hl;have HAt := zA hAt;have HBN := zA hb0;have hAc := hAt;obtain ⟨_, c0, c1, c2, c3, _, _⟩ := hAt;have i0 : (0 : Int) ≤ (i : Int) := zR _;have i1 : (i : Int) < (O.length : Int) := by omega
 have n1 : ¬ b = w.heap.size := fun e => by rw [e] at hcs; rw [k0] at hcs; cases hcs
 have n2 : ¬ b = w.heap.size + 1 := fun e => by rw [e] at hcs; rw [k1] at hcs; cases hcs
 have HNb := zA (zB n1 n2);obtain ⟨p0, f0⟩ := blk k0;obtain ⟨ro, hro⟩ : ∃ r, kM l = r := ⟨_, rfl⟩;rw [hro] at HOu ⊢;obtain ⟨Y, q, er, hY⟩ : ∃ Y q er, kZ O ⟨i, p⟩ = (Y, q, er) := ⟨_, _, _, rfl⟩;rw [hY] at HSp ⊢;unfold maxLen at hlen;have HCS := zA hcs
 have hcn : (Hid (l.cells = []) ∧ (((l.cells.length : Nat) : Int) == 0) = true) ∨ (((l.cells.length : Nat) : Int) == 0) = false := by
  by_cases e : l.cells = []
  ·exact .inl ⟨zA e, by rw [e]; rfl⟩
  ·have : l.cells.length ≠ 0 := fun e2 => e (List.length_eq_zero_iff.1 e2)
   exact .inr (by simp; exact e)
 cases ro with
 | none =>
  have HR : Hid (putK O ⟨i, p⟩ (if l.cells = [] then none else none) (Y, q, er) = (Y, q, er)) := zA (by rw [ite_self]; rfl);rw [HR.out];rcases hcn with ⟨HCE, hcn⟩ | hcn
  ·clear h hB k0 k1 hn he hs hf hM hA hl hla hY hro hcs hAc hfr
   go_enter Tryz.func146, Tryz.ntmps146
   go_wp2_with (first
    | (go_at_call 147; refine (HOu.out _ (hw0.alloc hw0.size _)).mono ?_; rintro e w3 ⟨_, hnone, hst3⟩; obtain rfl := hnone rfl; have hb3 := zX (hw0.alloc hw0.size _) hst3; have m3 := zY hst3 (qG _ _ rfl); have r3 := on1 m3; obtain ⟨t0, u0⟩ := blk1 (HB.out _ hb3).1; obtain ⟨t1, u1⟩ := blk1 (HB.out _ hb3).2; have z3 := hb3.size)
    | (go_at_call 148; refine (HSp.out _ (hb3.alloc hb3.size _)).mono ?_; intro e w4 hsaid; obtain ⟨v4, he4, hv4, hst4⟩ := hsaid; rw [HP.out] at he4; subst he4; have hb4 := zX (hb3.alloc hb3.size _) hst4; have HV4 := zA hv4; clear hv4; obtain ⟨q1, g1⟩ := blk (HB.out _ hb4).2))
   have hfin := H1.out.trans (hb4.mono hs1);refine zM (kT rfl _ _ (w.heap.size + 1) (.int .i64 q.line) (.int .i64 q.col) rfl (by simp [qT, jA, (HB.out _ hb4).2])) rfl ?_;have hv4 := HV4.out;have hn4 : n ≤ w.heap.size := HN.out;refine ⟨_, rfl, (qH (qB _) hv4 jN (fun b h _ => jL)), ?_⟩;refine Below.mono ?_ HN.out
   ((with_reducible repeat' first | exact zE _ _ | assumption | refine zG ?_ ?_ _ | refine zH ?_ | refine qR ?_ | refine zF ?_ ?_ _) <;> go_size)
  ·clear h hB k0 k1 hn he hs hf hM hA hl hla hY hro hcs hAc hfr
   go_enter Tryz.func146, Tryz.ntmps146
   go_wp2_with (first
    | (go_at_call 147; refine (HOu.out _ (hw0.alloc hw0.size _)).mono ?_; rintro e w3 ⟨_, hnone, hst3⟩; obtain rfl := hnone rfl; have hb3 := zX (hw0.alloc hw0.size _) hst3; have m3 := zY hst3 (qG _ _ rfl); have r3 := on1 m3; obtain ⟨t0, u0⟩ := blk1 (HB.out _ hb3).1; obtain ⟨t1, u1⟩ := blk1 (HB.out _ hb3).2; have z3 := hb3.size)
    | (go_at_call 148; refine (HSp.out _ (hb3.alloc hb3.size _)).mono ?_; intro e w4 hsaid; obtain ⟨v4, he4, hv4, hst4⟩ := hsaid; rw [HP.out] at he4; subst he4; have hb4 := zX (hb3.alloc hb3.size _) hst4; have HV4 := zA hv4; clear hv4; obtain ⟨q1, g1⟩ := blk (HB.out _ hb4).2))
   have hfin := H1.out.trans (hb4.mono hs1);refine zM (kT rfl _ _ (w.heap.size + 1) (.int .i64 q.line) (.int .i64 q.col) rfl (by simp [qT, jA, (HB.out _ hb4).2])) rfl ?_;have hv4 := HV4.out;have hn4 : n ≤ w.heap.size := HN.out;refine ⟨_, rfl, (qH (qB _) hv4 jN (fun b h _ => jL)), ?_⟩;refine Below.mono ?_ HN.out
   ((with_reducible repeat' first | exact zE _ _ | assumption | refine zG ?_ ?_ _ | refine zH ?_ | refine qR ?_ | refine zF ?_ ?_ _) <;> go_size)
 | some l' =>
  rcases hcn with ⟨HCE, hcn⟩ | hcn
  ·have HR : Hid (putK O ⟨i, p⟩ (if l.cells = [] then some l' else none) (Y, q, er) = (O.set i l', ⟨i, p⟩, 0)) := zA (by rw [if_pos HCE.out]; rfl)
   rw [HR.out];clear h hB k0 k1 hn he hs hf hM hA hl hla hY hro hcs hAc hfr;go_enter Tryz.func146, Tryz.ntmps146;go_wp2_with (go_at_call 147; refine (HOu.out _ (hw0.alloc hw0.size _)).mono ?_; rintro e w3 ⟨hsome, _, hst3⟩; obtain ⟨a', b', he', ha', hb'⟩ := hsome _ rfl; obtain ⟨a1, cc1, rfl⟩ := ha'.slice; obtain ⟨a2, cc2, rfl⟩ := hb'.slice; simp only [linV] at he'; subst he'; have hb3 := zX (hw0.alloc hw0.size _) hst3; have m3 := zY hst3 (qG _ _ rfl); have r3 := on1 m3; obtain ⟨t0, u0⟩ := blk1 (HB.out _ hb3).1; obtain ⟨t1, u1⟩ := blk1 (HB.out _ hb3).2; have z3 := hb3.size; have n5 : ¬ b = w3.heap.size := qD; have n6 : ¬ w3.heap.size = b := qD; have n7 : ¬ w.heap.size = b := (fun e => n1 e.symm); have n8 : ¬ w.heap.size + 1 = b := (fun e => n2 e.symm); obtain ⟨_, d0, d1, d2, d3, _, _⟩ := HAt.out.below hb3; have e0 := jR d0; have e1 := jR d1; have e2 := jR d2; have e3 := jR d3; have g3 := fun X k => (blk1 (zY hb3 HCS.out)).2 X k; have g4 := fun k => (blk (zY hb3 HCS.out)).2 k; have n9 : b < w3.heap.size := qD; have HAB := zA (zB ha' hb'); clear ha' hb');have hO3 : DocR true w3 (fun b => n ≤ b ∧ ¬ b = w.heap.size + 1) (.slice (some ⟨b, o, none⟩) O.length c) O := qH (qB true) (SliceR.bounded (qB true) HO.out) (Keeps.all (H1.out.trans (hb3.mono hs1))) (fun b h _ => ⟨h.1, fun e => by have := h.2; omega⟩);obtain ⟨W5, hW5, hD5, hk5, hz5, hb5⟩ := zDY hO3 HL.out l' (.slice a1 l'.lists.length cc1) (.slice a2 l'.cells.length cc2) (HAB.out.1.stable (qC _) (qN _ _) (fun b h _ => by have h' : (W1.alloc _).heap.size ≤ b := h; simp at h'; have := HN.out; exact ⟨by omega, by omega⟩)) (HAB.out.2.stable (qC _) (qN _ _) (fun b h _ => by have h' : (W1.alloc _).heap.size ≤ b := h; simp at h'; have := HN.out; exact ⟨by omega, by omega⟩));rw [hW5];have j0 := (hk5 w.heap.size (fun e => HNb.out.1 e.symm)).trans (HB.out _ hb3).1;have j1 := (hk5 (w.heap.size + 1) (fun e => HNb.out.2 e.symm)).trans (HB.out _ hb3).2;have HJ := zA (zB j1 (zB hD5 (zB (hb5 n HBN.out) hz5)));clear hk5 hD5 hb5 hW5 hO3 d0 d1 d2 d3 e0 e1 e2 e3 g3 g4 t0 t1 u0 u1 hz5;obtain ⟨p5, f5⟩ := blk1 j0;obtain ⟨p6, f6⟩ := blk1 j1;go_region;go_wp2_with fail;refine zM (kT rfl _ _ (w.heap.size + 1) (.int .i64 i) (.int .i64 p) rfl (by rw [xS]; simp [qT, jA, jK _ _ HJ.out.1])) rfl ?_;have hD5 := HJ.out.2.1;have hn5 : n ≤ w.heap.size := HN.out;have hfin : Below n w W5 := ((H1.out.trans (hb3.mono hs1)).mono hn5).trans HJ.out.2.2.1;have hzz := hfin.size;refine ⟨_, rfl, ?_, ?_⟩
   ·show DocR true _ _ (.slice (some ⟨b, o, none⟩) O.length c) (O.set i l')
    exact qH (qB true) hD5 zEq (fun b h _ => h.1)
   ·((with_reducible repeat' first | exact zE _ _ | assumption | refine zG ?_ ?_ _ | refine zH ?_ | refine qR ?_ | refine zF ?_ ?_ _) <;> go_size)
  ·have HR : Hid (putK O ⟨i, p⟩ (if l.cells = [] then some l' else none) (Y, q, er) = (Y, q, er)) := zA (by rw [if_neg (fun e => by rw [e] at hcn; exact absurd hcn qW)]; rfl)
   rw [HR.out];clear h hB k0 k1 hn he hs hf hM hA hl hla hY hro hcs hAc hfr;go_enter Tryz.func146, Tryz.ntmps146
   go_wp2_with (first
    | (go_at_call 147; refine (HOu.out _ (hw0.alloc hw0.size _)).mono ?_; rintro e w3 ⟨hsome, _, hst3⟩; obtain ⟨a', b', he', ha', hb'⟩ := hsome _ rfl; obtain ⟨a1, cc1, rfl⟩ := ha'.slice; obtain ⟨a2, cc2, rfl⟩ := hb'.slice; simp only [linV] at he'; subst he'; have hb3 := zX (hw0.alloc hw0.size _) hst3; have m3 := zY hst3 (qG _ _ rfl); have r3 := on1 m3; obtain ⟨t0, u0⟩ := blk1 (HB.out _ hb3).1; obtain ⟨t1, u1⟩ := blk1 (HB.out _ hb3).2; have z3 := hb3.size; have n5 : ¬ b = w3.heap.size := qD; have n6 : ¬ w3.heap.size = b := qD; have n7 : ¬ w.heap.size = b := (fun e => n1 e.symm); have n8 : ¬ w.heap.size + 1 = b := (fun e => n2 e.symm); obtain ⟨_, d0, d1, d2, d3, _, _⟩ := HAt.out.below hb3; have e0 := jR d0; have e1 := jR d1; have e2 := jR d2; have e3 := jR d3; have g3 := fun X k => (blk1 (zY hb3 HCS.out)).2 X k; have g4 := fun k => (blk (zY hb3 HCS.out)).2 k; have n9 : b < w3.heap.size := qD; have HAB := zA (zB ha' hb'); clear ha' hb')
    | (go_at_call 148; refine (HSp.out _ (hb3.alloc hb3.size _)).mono ?_; intro e w4 hsaid; obtain ⟨v4, he4, hv4, hst4⟩ := hsaid; rw [HP.out] at he4; subst he4; have hb4 := zX (hb3.alloc hb3.size _) hst4; have HV4 := zA hv4; clear hv4; obtain ⟨q1, g1⟩ := blk (HB.out _ hb4).2))
   have hfin := H1.out.trans (hb4.mono hs1);refine zM (kT rfl _ _ (w.heap.size + 1) (.int .i64 q.line) (.int .i64 q.col) rfl (by simp [qT, jA, (HB.out _ hb4).2])) rfl ?_;have hv4 := HV4.out;have hn4 : n ≤ w.heap.size := HN.out;refine ⟨_, rfl, (qH (qB _) hv4 jN (fun b h _ => jL)), ?_⟩;refine Below.mono ?_ HN.out
   ((with_reducible repeat' first | exact zE _ _ | assumption | refine zG ?_ ?_ _ | refine zH ?_ | refine qR ?_ | refine zF ?_ ?_ _) <;> go_size)
set_option maxRecDepth 100000 in
theorem zHv (v : Value) (s : St) (w : World) (S : Nat → Prop) (h : jD w S v s.lines) (he : EnvT w) (hs : Small s.lines) (hf : Fits s.lines) :
  Calls zV 75 #[stV v s] w (StSaid (keyS s (zCc s)) w) := by
 obtain ⟨W1, hW1, hB, hz, k0, k1⟩ := xU w v s;have HB : Hid (∀ W, Below W1.heap.size W1 W → W.heap[w.heap.size]? = some (.cells #[v, .int .i64 s.anc.line, .int .i64 s.anc.col, .int .i64 s.foc.line, .int .i64 s.foc.col, .int .i64 s.on, .int .i64 s.off] 26) ∧ W.heap[w.heap.size + 1]? = some (.cells #[.slice none 0 0, .int .i64 0, .int .i64 0, .int .i64 0, .int .i64 0, .int .i64 0, .int .i64 0] 26)) := zA fun W hW => ⟨zY hW k0, zY hW k1⟩;have hs1 := hB.size;have H1 := zA hB
 have HC := zA (zCu v s 146 #[] (zCc s) W1 S (h.below (qB _) hB) (he.below hB) hs hf (enters_of Tryz.func146 zT rfl)
  (fun hm n W a c hW h1 h2 h3 => zKY (outS s) (qV s).1 n a c W h3 h2 ((he.below hB).below hW) (uK (yX hm).1).1 (uK (yX hm).1).2 (yX hm).1 (yX hm).2.2.1))
 obtain ⟨X, hX⟩ : ∃ X, keyS s (zCc s) = X := ⟨_, rfl⟩;rw [hX] at HC ⊢;obtain ⟨p0, f0⟩ := blk k0;obtain ⟨p1, f1⟩ := blk k1;obtain ⟨va, vc, rfl⟩ := h.slice;clear h he hs hf hX k0 k1 hB;go_enter Tryz.func75, Tryz.ntmps75;go_wp2_with (go_at_call 138; refine HC.out.mono ?_; intro e w2 hsaid; obtain ⟨v2, rfl, hv2, hb2⟩ := hsaid; obtain ⟨a2, c2, rfl⟩ := hv2.slice; have HV2 := zA hv2; clear hv2; obtain ⟨q2, g2⟩ := blk (HB.out _ hb2).2);refine zM (jS rfl _ _ (w.heap.size + 1) (.slice a2 X.1.lines.length c2) (.int .i64 X.1.anc.line) (.int .i64 X.1.anc.col) (.int .i64 X.1.foc.line) (.int .i64 X.1.foc.col) (.int .i64 X.1.on) (.int .i64 X.1.off) (.int .i64 X.2) rfl rfl vO) rfl ?_;have hfin := H1.out.trans (hb2.mono hs1);have hv2 := HV2.out;exact ⟨_, rfl, (qH (qB _) hv2 jN (fun b h _ => jL)), by ((with_reducible repeat' first | exact zE _ _ | assumption | refine zG ?_ ?_ _ | refine zH ?_ | refine qR ?_ | refine zF ?_ ?_ _) <;> go_size)⟩
theorem zBb {w w' : World} {r : Option Lin} {e : Ending} (h : vR w r e w') : ∃ q a1 n1 c1 k a2 n2 c2 er, e = .returned (.tuple #[.agg #[.int .i64 q, .slice a1 n1 c1, .int .i64 k, .slice a2 n2 c2], .int .i64 er]) ∧ (er == (0 : Int)) = r.isSome ∧
  (∀ l', r = some l' → q = l'.quote ∧ k = l'.kind ∧ jJ true w' (fun b => w.heap.size ≤ b) (.slice a1 n1 c1) l'.lists ∧ jE true w' (fun b => w.heap.size ≤ b) (.slice a2 n2 c2) l'.cells) ∧ Below w.heap.size w w' := by
 obtain ⟨h1, h2, h3⟩ := h;cases r with
 | none => exact ⟨0, none, 0, 0, 0, none, 0, 0, 7, h2 rfl, rfl, fun l' h => kY, h3⟩
 | some l' =>
  obtain ⟨a', b', he, ha, hb⟩ := h1 _ rfl;obtain ⟨a1, c1, rfl⟩ := ha.slice;obtain ⟨a2, c2, rfl⟩ := hb.slice;exact ⟨_, _, _, _, _, _, _, _, 0, he, rfl, fun l'' h => (by cases h; exact ⟨rfl, rfl, ha, hb⟩), h3⟩
set_option maxRecDepth 100000 in
theorem zLO (Bs : Nat) (v : Value) (s : St) (n : Nat) (a : Option Addr) (c : Nat) (w : World) (hst : w.heap[Bs]? = some (.cells #[v, .int .i64 s.anc.line, .int .i64 s.anc.col, .int .i64 s.foc.line, .int .i64 s.foc.col, .int .i64 s.on, .int .i64 s.off] 26)) (h : DocR true w (fun b => n ≤ b) (.slice a (outS s).length c) (outS s)) (hn : n ≤ w.heap.size) (he : EnvT w) (hm : mayS s = true) (hv : ∃ va vn vc, v = .slice va vn vc) (hBn : Bs < n) :
  Calls zV 149 #[.slice a (outS s).length c, posV (qV s).1, .pointer (some ⟨Bs, 0, none⟩)] w (DocPB n (uQ s) w) := by
 obtain ⟨hM, _, hA, _, _⟩ := yX hm;have hs := (uK hM).1;have hf := (uK hM).2
 have hR : uQ s = if s.anc = s.foc then putK (outS s) (qV s).1 (if (qV s).1.col = 0 then vN (xC (outS s) (qV s).1) else none)
   (if (kK (outS s) (qV s).1 (-1)).2 = true then cutK (outS s) (kK (outS s) (qV s).1 (-1)).1 (qV s).1 (kK (outS s) (qV s).1 (-1)).1 else ([], (qV s).1, 7)) else (outS s, (qV s).1, 0) := rfl
 obtain ⟨O, hO⟩ : ∃ O, outS s = O := ⟨_, rfl⟩;obtain ⟨A, hAA⟩ : ∃ A, (qV s).1 = A := ⟨_, rfl⟩;rw [hO] at h hM hs hf hR hA ⊢;rw [hAA] at hR hA ⊢;obtain ⟨i, p, l, rfl, hl, hp, hml, hla⟩ := uM hM hA;rw [hla] at hR;obtain ⟨q, t, hqt⟩ : ∃ q t, kK O ⟨i, p⟩ (-1) = (q, t) := ⟨_, _, rfl⟩;rw [hqt] at hR;simp only at hR;obtain ⟨W1, hW1, hB, hz, k0, k1⟩ := vX w (.int .i64 i) (.int .i64 p) (.int .i64 0) (.int .i64 0);have hs1 := hB.size;have kt := zY hB hst;obtain ⟨b, o, la, lc, ca, cc, rfl, hb0, hbz, hAt, hfr, cs, hcs⟩ := zCD (h.below hB) hl;have hfl := hf.2 l (yI hl);have hsl := hs.2.2 l (yI hl);have hil := (zK.1 hl).1;have hlen := (h.below hB).len;have HB : Hid (∀ W, Below W1.heap.size W1 W → W.heap[w.heap.size]? = some (.cells #[.int .i64 (⟨i, p⟩ : Ps).line, .int .i64 (⟨i, p⟩ : Ps).col] 24) ∧ W.heap[w.heap.size + 1]? = some (.cells #[.int .i64 0, .int .i64 0] 24) ∧ W.heap[Bs]? = some (.cells #[v, .int .i64 s.anc.line, .int .i64 s.anc.col, .int .i64 s.foc.line, .int .i64 s.foc.col, .int .i64 s.on, .int .i64 s.off] 26)) := zA fun W hW => ⟨zY hW k0, zY hW k1, zY hW kt⟩;have hw0 : Below W1.heap.size W1 W1 := zE _ _;have HFr : Hid (∀ W, Below W1.heap.size W1 W → Calls zV 150 #[.agg #[.int .i64 l.quote, .slice la l.lists.length lc, .int .i64 l.kind, .slice ca l.cells.length cc]] W (vR W (vN l))) := zA fun W hW => zIA l la ca lc cc W W1 (fun b => n ≤ b) hAt.listsR hAt.cellsR hW ((he.below hB).below hW) hfl hsl hml
 have HS : Hid (∀ W, Below W1.heap.size W1 W → Calls zV 151 #[.slice (some ⟨b, o, none⟩) O.length c, .agg #[.int .i64 i, .int .i64 p], .int .i64 (-1)] W fun e w' => e = .returned (.tuple #[.agg #[.int .i64 q.line, .int .i64 q.col], .bool t]) ∧ Below W.heap.size W w') := zA fun W hW => by
  have := zGD _ O ⟨i, p⟩ (-1) W w (fun b => n ≤ b) h.read (hB.trans (hW.mono hs1)) hs.1 hs.2.1 qW;rw [hqt] at this;exact this
 have HD : Hid (∀ W, Below W1.heap.size W1 W → Calls zV 152 #[.slice (some ⟨b, o, none⟩) O.length c, .agg #[.int .i64 q.line, .int .i64 q.col], .agg #[.int .i64 i, .int .i64 p]] W (DocSaid (kR O q ⟨i, p⟩) W)) := zA fun W hW => zDq _ O q ⟨i, p⟩ W (fun b => n ≤ b) (h.below (hB.trans (hW.mono hs1))).read ((he.below hB).below hW) hs hf;have HP : Hid (∀ p : Ps, posV p = .agg #[.int .i64 p.line, .int .i64 p.col]) := zA fun _ => rfl;rw [HP.out];have HO := zA h;have H1 := zA hB;have HN := zA hn;have HL := zA hl;have HAt := zA hAt;have HCS := zA hcs;have HR := zA hR;have hAc := hAt;obtain ⟨_, c0, c1, c2, c3, _, _⟩ := hAt;have i0 : (0 : Int) ≤ (i : Int) := zR _;have i1 : (i : Int) < (O.length : Int) := by omega
 have n1 : ¬ b = w.heap.size := fun e => by rw [e] at hcs; rw [k0] at hcs; cases hcs
 have n2 : ¬ b = w.heap.size + 1 := fun e => by rw [e] at hcs; rw [k1] at hcs; cases hcs
 have HBN := zA hb0;have HNb := zA (zB n1 n2);have hg := zDZ;have hq := fun (w : World) => zDz s.anc s.foc w;obtain ⟨p0, f0⟩ := blk k0;obtain ⟨va, vn, vc, rfl⟩ := hv;obtain ⟨ro, hro⟩ : ∃ r, vN l = r := ⟨_, rfl⟩;rw [hro] at HFr HR;unfold maxLen at hlen
 have hpz : (((p : Nat) : Int) == 0) = decide (p = 0) := by
  by_cases hp0 : p = 0
  ·subst hp0; rfl
  ·rw [decide_eq_false hp0]; simpa using hp0
 by_cases hc : s.anc = s.foc
 ·rw [if_pos hc] at HR
  rw [decide_eq_true hc] at hq
  have hcase : (p = 0 ∧ ∃ l', ro = some l') ∨ (Hid (putK O ⟨i, p⟩ (if (⟨i, p⟩ : Ps).col = 0 then ro else none) (if t = true then cutK O q ⟨i, p⟩ q else ([], ⟨i, p⟩, 7)) = (if t = true then cutK O q ⟨i, p⟩ q else ([], ⟨i, p⟩, 7))) ∧ ((p = 0 ∧ ro = none) ∨ p ≠ 0)) := by
   by_cases hp0 : p = 0
   ·cases ro with
    | none => exact .inr ⟨zA (by rw [ite_self]; rfl), .inl ⟨hp0, rfl⟩⟩
    | some l' => exact .inl ⟨hp0, l', rfl⟩
   ·exact .inr ⟨zA (by rw [if_neg (by simp only; omega)]; rfl), .inr hp0⟩
  rcases hcase with ⟨hp0, l', rfl⟩ | ⟨HPK, hcase⟩
  ·have HR1 : Hid (uQ s = (O.set i l', ⟨i, p⟩, 0)) := zA (by rw [HR.out, if_pos (show ((p : Nat) : Int) = 0 by omega)]; rfl)
   rw [decide_eq_true hp0] at hpz;clear h hB k0 k1 kt hst hn he hs hf hM hA hl hla hro hcs hAc hfr hR hqt hm hc hO hAA HR hp0 HD;go_enter Tryz.func149, Tryz.ntmps149
   go_wp2_with (first
    | (go_at_call 150; refine (HFr.out _ hw0).mono ?_; rintro e w3 hsaid; obtain ⟨fq, fa1, fn1, fc1, fk, fa2, fn2, fc2, fe, rfl, hfe, HFS, hst3⟩ := zBb hsaid; have HFS := zA HFS; clear hsaid; have hb3 := zX hw0 hst3; have z3 := hb3.size; obtain ⟨t0, u0⟩ := blk1 (HB.out _ hb3).1; (try simp only [Option.isSome_none, Option.isSome_some] at hfe))
    | (go_at_call 151; refine (HS.out _ (hb3.alloc hb3.size _)).mono ?_; rintro e w5 ⟨rfl, hst5⟩; have hb5 := zX (hb3.alloc hb3.size _) hst5; have m5 := zY hst5 (qG w3 _ rfl); have r5 := on1 m5; have z5 := hst5.size; obtain ⟨t2, u2⟩ := blk1 (HB.out _ hb5).1; obtain ⟨t3, u3⟩ := blk1 (HB.out _ hb5).2.1; obtain ⟨t4, u4⟩ := blk1 (HB.out _ hb5).2.2; have zz5 := hb5.size; have n5 : ¬ b = w5.heap.size := qD; have n6 : ¬ w5.heap.size = b := qD; have n7 : ¬ w.heap.size = b := (fun e => n1 e.symm); have n8 : ¬ w.heap.size + 1 = b := (fun e => n2 e.symm); have n9 : b < w5.heap.size := qD; have g4 := fun k => (blk (zY hb5 HCS.out)).2 k; have y1 : ¬ w5.heap.size = w.heap.size + 1 := qD; have y2 : ¬ w.heap.size + 1 = w5.heap.size := qD; obtain ⟨_, d0, d1, d2, d3, _, _⟩ := HAt.out.below hb5; have e0 := jR d0; have e1 := jR d1; have e2 := jR d2; have e3 := jR d3; have g3 := fun X k => (blk1 (zY hb5 HCS.out)).2 X k))
   obtain ⟨rfl, rfl, hi3, hc3⟩ := HFS.out _ rfl;have hb35 : Below w3.heap.size w3 w5 := ((zE _ _).alloc (Nat.le_refl _) _).trans (hst5.mono qF);have hO5 : DocR true w5 (fun b => n ≤ b ∧ ¬ b = w.heap.size + 1) (.slice (some ⟨b, o, none⟩) O.length c) O := qH (qB true) (SliceR.bounded (qB true) HO.out) (Keeps.all (H1.out.trans (hb5.mono hs1))) (fun b h _ => ⟨h.1, fun e => by have := h.2; omega⟩);have hi5 := qH (S' := fun b => n ≤ b ∧ ¬ b = w.heap.size + 1) (qC _) (SliceR.below (qC _) hi3 hb35) (qN _ _) (fun b h _ => by have h' : W1.heap.size ≤ b := h; have := HN.out; exact ⟨by omega, by omega⟩);have hc5 := qH (S' := fun b => n ≤ b ∧ ¬ b = w.heap.size + 1) (qC _) (SliceR.below (qC _) hc3 hb35) (qN _ _) (fun b h _ => by have h' : W1.heap.size ≤ b := h; have := HN.out; exact ⟨by omega, by omega⟩);have hl5 := hi5.len.1;have hl6 := hc5.len.1;obtain ⟨W5, hW5, hD5, hk5, hz5, hb5'⟩ := zDY hO5 HL.out l' (.slice fa1 fn1 fc1) (.slice fa2 fn2 fc2) hi5 hc5;rw [hW5];have j0 := (hk5 w.heap.size (fun e => HNb.out.1 e.symm)).trans (HB.out _ hb5).1;have j1 := (hk5 (w.heap.size + 1) (fun e => HNb.out.2 e.symm)).trans (HB.out _ hb5).2.1;have HJ := zA (zB j1 (zB hD5 (zB (hb5' n HBN.out) hz5)));clear hk5 hD5 hb5' hW5 hO5 d0 d1 d2 d3 e0 e1 e2 e3 g3 g4 t0 u0 t2 u2 t3 u3 t4 u4 hz5 hi5 hc5 hi3 hc3 hl5 hl6;obtain ⟨p5, f5⟩ := blk1 j0;obtain ⟨p6, f6⟩ := blk1 j1;go_region;go_wp2_with fail;refine zM (kT rfl _ _ (w.heap.size + 1) (.int .i64 i) (.int .i64 p) rfl (by rw [xS]; simp [qT, jA, jK _ _ HJ.out.1])) rfl ?_;rw [HR1.out];have hD5 := HJ.out.2.1;have hn5 : n ≤ w.heap.size := HN.out;have hfin : Below n w W5 := ((H1.out.trans (hb5.mono hs1)).mono hn5).trans HJ.out.2.2.1;have hzz := hfin.size;refine ⟨_, rfl, ?_, ?_⟩
   ·show DocR true _ _ (.slice (some ⟨b, o, none⟩) O.length c) (O.set i l')
    exact qH (qB true) hD5 zEq (fun b h _ => h.1)
   ·((with_reducible repeat' first | exact zE _ _ | assumption | refine zG ?_ ?_ _ | refine zH ?_ | refine qR ?_ | refine zF ?_ ?_ _) <;> go_size)
  ·have HR1 : Hid (uQ s = if t = true then cutK O q ⟨i, p⟩ q else ([], ⟨i, p⟩, 7)) := zA (HR.out.trans HPK.out)
   have HX : Hid (cutK O q ⟨i, p⟩ q = ((kR O q ⟨i, p⟩).1, q, (kR O q ⟨i, p⟩).2)) := zA rfl;obtain ⟨D, er, hD⟩ : ∃ D er, kR O q ⟨i, p⟩ = (D, er) := ⟨_, _, rfl⟩;rw [hD] at HX HD;clear h hB k0 k1 kt hst hn he hs hf hM hA hl hla hro hcs hAc hfr hR hqt hm hc hO hAA HR HPK hD;rcases hcase with ⟨hp0, rfl⟩ | hp0
   ·rw [decide_eq_true hp0] at hpz
    clear hp0;cases t
    ·have HR2 := zA (HR1.out.trans (if_neg qW))
     clear HR1 HD HX;go_enter Tryz.func149, Tryz.ntmps149
     go_wp2_with (first
      | (go_at_call 150; refine (HFr.out _ hw0).mono ?_; rintro e w3 hsaid; obtain ⟨fq, fa1, fn1, fc1, fk, fa2, fn2, fc2, fe, rfl, hfe, HFS, hst3⟩ := zBb hsaid; have HFS := zA HFS; clear hsaid; have hb3 := zX hw0 hst3; have z3 := hb3.size; obtain ⟨t0, u0⟩ := blk1 (HB.out _ hb3).1; (try simp only [Option.isSome_none, Option.isSome_some] at hfe))
      | (go_at_call 151; refine (HS.out _ (hb3.alloc hb3.size _)).mono ?_; rintro e w5 ⟨rfl, hst5⟩; have hb5 := zX (hb3.alloc hb3.size _) hst5; have m5 := zY hst5 (qG w3 _ rfl); have r5 := on1 m5; have z5 := hst5.size; obtain ⟨t2, u2⟩ := blk1 (HB.out _ hb5).1; obtain ⟨t3, u3⟩ := blk1 (HB.out _ hb5).2.1; obtain ⟨t4, u4⟩ := blk1 (HB.out _ hb5).2.2; have zz5 := hb5.size; have n5 : ¬ b = w5.heap.size := qD; have n6 : ¬ w5.heap.size = b := qD; have n7 : ¬ w.heap.size = b := (fun e => n1 e.symm); have n8 : ¬ w.heap.size + 1 = b := (fun e => n2 e.symm); have n9 : b < w5.heap.size := qD; have g4 := fun k => (blk (zY hb5 HCS.out)).2 k; have y1 : ¬ w5.heap.size = w.heap.size + 1 := qD; have y2 : ¬ w.heap.size + 1 = w5.heap.size := qD; obtain ⟨_, d0, d1, d2, d3, _, _⟩ := HAt.out.below hb5; have e0 := jR d0; have e1 := jR d1; have e2 := jR d2; have e3 := jR d3; have g3 := fun X k => (blk1 (zY hb5 HCS.out)).2 X k))
     go_region;go_wp2_with fail;have hfin := H1.out.trans (hb5.mono hs1);refine zM (kT rfl _ _ (w.heap.size + 1) (.int .i64 i) (.int .i64 p) rfl zEr) rfl ?_;exact DocPB.err HR2.out zAR HN.out
    ·have HR2 := zA (HR1.out.trans (if_pos rfl))
     clear HR1;go_enter Tryz.func149, Tryz.ntmps149
     go_wp2_with (first
      | (go_at_call 150; refine (HFr.out _ hw0).mono ?_; rintro e w3 hsaid; obtain ⟨fq, fa1, fn1, fc1, fk, fa2, fn2, fc2, fe, rfl, hfe, HFS, hst3⟩ := zBb hsaid; have HFS := zA HFS; clear hsaid; have hb3 := zX hw0 hst3; have z3 := hb3.size; obtain ⟨t0, u0⟩ := blk1 (HB.out _ hb3).1; (try simp only [Option.isSome_none, Option.isSome_some] at hfe))
      | (go_at_call 151; refine (HS.out _ (hb3.alloc hb3.size _)).mono ?_; rintro e w5 ⟨rfl, hst5⟩; have hb5 := zX (hb3.alloc hb3.size _) hst5; have m5 := zY hst5 (qG w3 _ rfl); have r5 := on1 m5; have z5 := hst5.size; obtain ⟨t2, u2⟩ := blk1 (HB.out _ hb5).1; obtain ⟨t3, u3⟩ := blk1 (HB.out _ hb5).2.1; obtain ⟨t4, u4⟩ := blk1 (HB.out _ hb5).2.2; have zz5 := hb5.size; have n5 : ¬ b = w5.heap.size := qD; have n6 : ¬ w5.heap.size = b := qD; have n7 : ¬ w.heap.size = b := (fun e => n1 e.symm); have n8 : ¬ w.heap.size + 1 = b := (fun e => n2 e.symm); have n9 : b < w5.heap.size := qD; have g4 := fun k => (blk (zY hb5 HCS.out)).2 k; have y1 : ¬ w5.heap.size = w.heap.size + 1 := qD; have y2 : ¬ w.heap.size + 1 = w5.heap.size := qD; obtain ⟨_, d0, d1, d2, d3, _, _⟩ := HAt.out.below hb5; have e0 := jR d0; have e1 := jR d1; have e2 := jR d2; have e3 := jR d3; have g3 := fun X k => (blk1 (zY hb5 HCS.out)).2 X k)
      | (go_at_call 152; refine (HD.out _ (hb5.alloc hb5.size _)).mono ?_; intro e w6 hsaid; obtain ⟨v6, rfl, hv6, hst6⟩ := hsaid; have hb6 := zX (hb5.alloc hb5.size _) hst6; have HV6 := zA hv6; clear hv6; obtain ⟨q0, s0⟩ := blk (HB.out _ hb6).1; obtain ⟨q1, s1⟩ := blk (HB.out _ hb6).2.1; have m6 := zY hst6 (qG w5 _ rfl); obtain ⟨q2, s2⟩ := blk m6))
     go_region;go_wp2_with fail;have hfin := H1.out.trans (hb6.mono hs1);refine zM (kT rfl _ _ (w.heap.size + 1) (.int .i64 q.line) (.int .i64 q.col) rfl (by rw [xS]; simp [qT, jA, (HB.out _ hb6).2.1])) rfl ?_;rw [HR2.out, HX.out];have hv6 := HV6.out;have hn4 : n ≤ w.heap.size := HN.out;refine ⟨_, rfl, (qH (qB _) hv6 jN (fun b h _ => jL)), ?_⟩;refine Below.mono ?_ HN.out
     ((with_reducible repeat' first | exact zE _ _ | assumption | refine zG ?_ ?_ _ | refine zH ?_ | refine qR ?_ | refine zF ?_ ?_ _) <;> go_size)
   ·rw [decide_eq_false hp0] at hpz
    clear hp0;cases t
    ·have HR2 := zA (HR1.out.trans (if_neg qW))
     clear HR1 HD HX;go_enter Tryz.func149, Tryz.ntmps149
     go_wp2_with (first
      | (go_at_call 150; refine (HFr.out _ hw0).mono ?_; rintro e w3 hsaid; obtain ⟨fq, fa1, fn1, fc1, fk, fa2, fn2, fc2, fe, rfl, hfe, HFS, hst3⟩ := zBb hsaid; have HFS := zA HFS; clear hsaid; have hb3 := zX hw0 hst3; have z3 := hb3.size; obtain ⟨t0, u0⟩ := blk1 (HB.out _ hb3).1; (try simp only [Option.isSome_none, Option.isSome_some] at hfe))
      | (go_at_call 151; refine (HS.out _ (hb3.alloc hb3.size _)).mono ?_; rintro e w5 ⟨rfl, hst5⟩; have hb5 := zX (hb3.alloc hb3.size _) hst5; have m5 := zY hst5 (qG w3 _ rfl); have r5 := on1 m5; have z5 := hst5.size; obtain ⟨t2, u2⟩ := blk1 (HB.out _ hb5).1; obtain ⟨t3, u3⟩ := blk1 (HB.out _ hb5).2.1; obtain ⟨t4, u4⟩ := blk1 (HB.out _ hb5).2.2; have zz5 := hb5.size; have n5 : ¬ b = w5.heap.size := qD; have n6 : ¬ w5.heap.size = b := qD; have n7 : ¬ w.heap.size = b := (fun e => n1 e.symm); have n8 : ¬ w.heap.size + 1 = b := (fun e => n2 e.symm); have n9 : b < w5.heap.size := qD; have g4 := fun k => (blk (zY hb5 HCS.out)).2 k; have y1 : ¬ w5.heap.size = w.heap.size + 1 := qD; have y2 : ¬ w.heap.size + 1 = w5.heap.size := qD; obtain ⟨_, d0, d1, d2, d3, _, _⟩ := HAt.out.below hb5; have e0 := jR d0; have e1 := jR d1; have e2 := jR d2; have e3 := jR d3; have g3 := fun X k => (blk1 (zY hb5 HCS.out)).2 X k))
     go_region;go_wp2_with fail;have hfin := H1.out.trans (hb5.mono hs1);refine zM (kT rfl _ _ (w.heap.size + 1) (.int .i64 i) (.int .i64 p) rfl zEr) rfl ?_;exact DocPB.err HR2.out zAR HN.out
    ·have HR2 := zA (HR1.out.trans (if_pos rfl))
     clear HR1;go_enter Tryz.func149, Tryz.ntmps149
     go_wp2_with (first
      | (go_at_call 150; refine (HFr.out _ hw0).mono ?_; rintro e w3 hsaid; obtain ⟨fq, fa1, fn1, fc1, fk, fa2, fn2, fc2, fe, rfl, hfe, HFS, hst3⟩ := zBb hsaid; have HFS := zA HFS; clear hsaid; have hb3 := zX hw0 hst3; have z3 := hb3.size; obtain ⟨t0, u0⟩ := blk1 (HB.out _ hb3).1; (try simp only [Option.isSome_none, Option.isSome_some] at hfe))
      | (go_at_call 151; refine (HS.out _ (hb3.alloc hb3.size _)).mono ?_; rintro e w5 ⟨rfl, hst5⟩; have hb5 := zX (hb3.alloc hb3.size _) hst5; have m5 := zY hst5 (qG w3 _ rfl); have r5 := on1 m5; have z5 := hst5.size; obtain ⟨t2, u2⟩ := blk1 (HB.out _ hb5).1; obtain ⟨t3, u3⟩ := blk1 (HB.out _ hb5).2.1; obtain ⟨t4, u4⟩ := blk1 (HB.out _ hb5).2.2; have zz5 := hb5.size; have n5 : ¬ b = w5.heap.size := qD; have n6 : ¬ w5.heap.size = b := qD; have n7 : ¬ w.heap.size = b := (fun e => n1 e.symm); have n8 : ¬ w.heap.size + 1 = b := (fun e => n2 e.symm); have n9 : b < w5.heap.size := qD; have g4 := fun k => (blk (zY hb5 HCS.out)).2 k; have y1 : ¬ w5.heap.size = w.heap.size + 1 := qD; have y2 : ¬ w.heap.size + 1 = w5.heap.size := qD; obtain ⟨_, d0, d1, d2, d3, _, _⟩ := HAt.out.below hb5; have e0 := jR d0; have e1 := jR d1; have e2 := jR d2; have e3 := jR d3; have g3 := fun X k => (blk1 (zY hb5 HCS.out)).2 X k)
      | (go_at_call 152; refine (HD.out _ (hb5.alloc hb5.size _)).mono ?_; intro e w6 hsaid; obtain ⟨v6, rfl, hv6, hst6⟩ := hsaid; have hb6 := zX (hb5.alloc hb5.size _) hst6; have HV6 := zA hv6; clear hv6; obtain ⟨q0, s0⟩ := blk (HB.out _ hb6).1; obtain ⟨q1, s1⟩ := blk (HB.out _ hb6).2.1; have m6 := zY hst6 (qG w5 _ rfl); obtain ⟨q2, s2⟩ := blk m6))
     go_region;go_wp2_with fail;have hfin := H1.out.trans (hb6.mono hs1);refine zM (kT rfl _ _ (w.heap.size + 1) (.int .i64 q.line) (.int .i64 q.col) rfl (by rw [xS]; simp [qT, jA, (HB.out _ hb6).2.1])) rfl ?_;rw [HR2.out, HX.out];have hv6 := HV6.out;have hn4 : n ≤ w.heap.size := HN.out;refine ⟨_, rfl, (qH (qB _) hv6 jN (fun b h _ => jL)), ?_⟩;refine Below.mono ?_ HN.out
     ((with_reducible repeat' first | exact zE _ _ | assumption | refine zG ?_ ?_ _ | refine zH ?_ | refine qR ?_ | refine zF ?_ ?_ _) <;> go_size)
 ·rw [if_neg hc] at HR
  rw [decide_eq_false hc] at hq;clear h hB k0 k1 kt hst hn he hs hf hM hA hl hla hro hcs hAc hfr hR hqt hm hc hO hAA HD;go_enter Tryz.func149, Tryz.ntmps149
  go_wp2_with (first
   | (go_at_call 150; refine (HFr.out _ hw0).mono ?_; rintro e w3 hsaid; obtain ⟨fq, fa1, fn1, fc1, fk, fa2, fn2, fc2, fe, rfl, hfe, HFS, hst3⟩ := zBb hsaid; have HFS := zA HFS; clear hsaid; have hb3 := zX hw0 hst3; have z3 := hb3.size; obtain ⟨t0, u0⟩ := blk1 (HB.out _ hb3).1; (try simp only [Option.isSome_none, Option.isSome_some] at hfe))
   | (go_at_call 151; refine (HS.out _ (hb3.alloc hb3.size _)).mono ?_; rintro e w5 ⟨rfl, hst5⟩; have hb5 := zX (hb3.alloc hb3.size _) hst5; have m5 := zY hst5 (qG w3 _ rfl); have r5 := on1 m5; have z5 := hst5.size; obtain ⟨t2, u2⟩ := blk1 (HB.out _ hb5).1; obtain ⟨t3, u3⟩ := blk1 (HB.out _ hb5).2.1; obtain ⟨t4, u4⟩ := blk1 (HB.out _ hb5).2.2; have zz5 := hb5.size; have n5 : ¬ b = w5.heap.size := qD; have n6 : ¬ w5.heap.size = b := qD; have n7 : ¬ w.heap.size = b := (fun e => n1 e.symm); have n8 : ¬ w.heap.size + 1 = b := (fun e => n2 e.symm); have n9 : b < w5.heap.size := qD; have g4 := fun k => (blk (zY hb5 HCS.out)).2 k; have y1 : ¬ w5.heap.size = w.heap.size + 1 := qD; have y2 : ¬ w.heap.size + 1 = w5.heap.size := qD; obtain ⟨_, d0, d1, d2, d3, _, _⟩ := HAt.out.below hb5; have e0 := jR d0; have e1 := jR d1; have e2 := jR d2; have e3 := jR d3; have g3 := fun X k => (blk1 (zY hb5 HCS.out)).2 X k))
  go_region;go_wp2_with fail;have hfin := H1.out.trans (hb5.mono hs1);refine zM (kT rfl _ _ (w.heap.size + 1) (.int .i64 i) (.int .i64 p) rfl zEr) rfl ?_;exact DocPB.same HR.out HO.out zAR HN.out
set_option maxRecDepth 100000 in
theorem zIV (v : Value) (s : St) (w : World) (S : Nat → Prop) (h : jD w S v s.lines) (he : EnvT w) (hs : Small s.lines) (hf : Fits s.lines) :
  Calls zV 76 #[stV v s] w (StSaid (keyS s (uQ s)) w) := by
 obtain ⟨W1, hW1, hB, hz, k0, k1⟩ := xU w v s;have HB : Hid (∀ W, Below W1.heap.size W1 W → W.heap[w.heap.size]? = some (.cells #[v, .int .i64 s.anc.line, .int .i64 s.anc.col, .int .i64 s.foc.line, .int .i64 s.foc.col, .int .i64 s.on, .int .i64 s.off] 26) ∧ W.heap[w.heap.size + 1]? = some (.cells #[.slice none 0 0, .int .i64 0, .int .i64 0, .int .i64 0, .int .i64 0, .int .i64 0, .int .i64 0] 26)) := zA fun W hW => ⟨zY hW k0, zY hW k1⟩;have hs1 := hB.size;have H1 := zA hB;obtain ⟨va, vc, rfl⟩ := h.slice
 have HC := zA (zCu _ s 149 #[.pointer (some ⟨w.heap.size, 0, none⟩)] (uQ s) W1 S (h.below (qB _) hB) (he.below hB) hs hf (enters_of Tryz.func149 zT rfl)
  (fun hm n W a c hW h1 h2 h3 => zLO w.heap.size _ s n a c W (zY hW k0) h3 h2 ((he.below hB).below hW) hm ⟨_, _, _, rfl⟩ qD))
 obtain ⟨X, hX⟩ : ∃ X, keyS s (uQ s) = X := ⟨_, rfl⟩;rw [hX] at HC ⊢;obtain ⟨p0, f0⟩ := blk k0;obtain ⟨p1, f1⟩ := blk k1;clear h he hs hf hX k0 k1 hB;go_enter Tryz.func76, Tryz.ntmps76;go_wp2_with (go_at_call 138; refine HC.out.mono ?_; intro e w2 hsaid; obtain ⟨v2, rfl, hv2, hb2⟩ := hsaid; obtain ⟨a2, c2, rfl⟩ := hv2.slice; have HV2 := zA hv2; clear hv2; obtain ⟨q2, g2⟩ := blk (HB.out _ hb2).2);refine zM (jS rfl _ _ (w.heap.size + 1) (.slice a2 X.1.lines.length c2) (.int .i64 X.1.anc.line) (.int .i64 X.1.anc.col) (.int .i64 X.1.foc.line) (.int .i64 X.1.foc.col) (.int .i64 X.1.on) (.int .i64 X.1.off) (.int .i64 X.2) rfl rfl vO) rfl ?_;have hfin := H1.out.trans (hb2.mono hs1);have hv2 := HV2.out;exact ⟨_, rfl, (qH (qB _) hv2 jN (fun b h _ => jL)), by ((with_reducible repeat' first | exact zE _ _ | assumption | refine zG ?_ ?_ _ | refine zH ?_ | refine qR ?_ | refine zF ?_ ?_ _) <;> go_size)⟩
end Go.Proofs.YtcliojeoindceaaGreatDoor
