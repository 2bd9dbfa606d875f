/- StGoes -/
import Derived.Test.YteobmfpbgnmffaaGreatDoorT31
set_option linter.unusedVariables false
set_option maxHeartbeats 16000000
set_option maxRecDepth 100000
open Go.Lib (hid)
set_option linter.unusedSimpArgs false
namespace Go.Proofs.YteobmfpbgnmffaaGreatDoor
open Go.RowKit Go.Shelf
attribute [local go_sem] Oper.semAt_some
attribute [local go_sem ↓ high] qB0
def nmP (L : List Pr) (m k : Nat) : Bool := match L[m]?, L[k]? with | some y, some x => decide (y.pk.name = x.pk.name) | _, _ => false
def qGK (L : List Pr) (inb : List Bool) (I0 n k : Nat) : Int := if (chgl inb I0 I0 n).any (fun m => nmP L m k) then 7 else if (chgl inb I0 I0 n).any (fun m => obsP L (m : Int) (k : Int)) then 8 else 6
def GsI {inb : List Bool} {I0 n : Nat} (L : List Pr) (w : World) (cb k g kb : Nat) (q : Pk) (pre : List (ChgN inb I0 I0 n)) (W : World) : Prop := (∀ y ∈ pre, nmP L y.1 k = false) /\ GoAt w cb k g kb (kb + 1) q 0 (if pre.any (fun y => obsP L (y.1 : Int) (k : Int)) then 8 else 6) W
def GsX {inb : List Bool} {I0 n : Nat} (L : List Pr) (w : World) (cb k g kb : Nat) (q : Pk) (c : Code) (pre : List (ChgN inb I0 I0 n)) (W : World) : Prop := (c = .ret /\ ∃ y ∈ pre, nmP L y.1 k = true) /\ ∃ kd, GoAt w cb k g kb (kb + 1) q 7 kd W
theorem GsI.own {inb : List Bool} {I0 n : Nat} {L : List Pr} {w : World} {cb k g kb B : Nat} {q : Pk} (hB : kb + 1 <= B) : OwnFrom B (GsI (inb := inb) (I0 := I0) (n := n) L w cb k g kb q) := fun s A C row hs hg hr => ⟨hs.1, GoAt.own hB s A C row hs.2 hg hr⟩
theorem GsX.own {inb : List Bool} {I0 n : Nat} {L : List Pr} {w : World} {cb k g kb B : Nat} {q : Pk} (hB : kb + 1 <= B) (c : Code) : OwnFrom B (GsX (inb := inb) (I0 := I0) (n := n) L w cb k g kb q c) := fun s A C row hs hg hr => ⟨hs.1, hs.2.elim fun kd h => ⟨kd, GoAt.own hB s A C row h hg hr⟩⟩
theorem qHG {R : Nat} {w w' : World} (h : ButR R w w') : w.grownBy w' (some R) := ⟨h.os, h.tape, h.output, h.size, fun k hk hne => h.block k hk (fun e => hne (by rw [e]))⟩
def gsA (cb P k : Nat) (x : Pk) (i : Nat) (v : Value) (W : World) : Prop := match i with
 | 0 => v = .pointer (some ⟨cb, 0, none⟩)
 | 1 => v = .pointer (some ⟨cb, 0, none⟩)
 | 2 => v = .pointer (some ⟨cb, 0, none⟩)
 | 3 => v = .pointer (some ⟨P, 0, none⟩)
 | 4 => v = .int .i64 (k : Int)
 | 5 => ∃ q : Pk, v = .tuple #[q.val, .int .i64 0] /\ Alike x q
 | 6 => ∃ q : Pk, v = .tuple #[q.val, .int .i64 0] /\ Alike x q
 | 7 => ∃ q : Pk, v = q.val /\ Alike x q
 | 8 => v = .int .i64 0
 | 9 => True
 | 10 => True
 | _ => False
theorem qID (cb P k : Nat) (x : Pk) : ∀ i v w w', gsA cb P k x i v w -> gsA cb P k x i v w' := by
 intro i v w w' h
 match i, h with
 | 0, h | 1, h | 2, h | 3, h | 4, h | 5, h | 6, h | 7, h | 8, h | 9, h | 10, h => exact h
 | (i + 11), h => exact h.elim
def gsB (cb P I0 n : Nat) (i : Nat) (v : Value) (W : World) : Prop := match i with
 | 0 => v = .pointer (some ⟨cb, 0, none⟩)
 | 1 => v = .pointer (some ⟨cb, 0, none⟩)
 | 2 => v = .pointer (some ⟨cb, 0, none⟩)
 | 3 => v = .pointer (some ⟨cb, 0, none⟩)
 | 4 => v = .pointer (some ⟨P, 0, none⟩)
 | 5 => v = .int .i64 (I0 : Int)
 | 6 => v = .pointer (some ⟨cb, 0, none⟩)
 | 7 => v = .pointer (some ⟨cb, 0, none⟩)
 | 8 => v = .pointer (some ⟨cb, 0, none⟩)
 | 9 => v = .pointer (some ⟨P, 0, none⟩)
 | 10 => v = .int .i64 (n : Int)
 | _ => False
theorem qLZ (cb P I0 n : Nat) : ∀ i v w w', gsB cb P I0 n i v w -> Below w.heap.size w w' -> gsB cb P I0 n i v w' := by
 intro i v w w' h _
 match i, h with
 | 0, h | 1, h | 2, h | 3, h | 4, h | 5, h | 6, h | 7, h | 8, h | 9, h | 10, h => exact h
 | (i + 11), h => exact h.elim
def gsC (cb P m k : Nat) (i : Nat) (v : Value) (W : World) : Prop := match i with
 | 0 => v = .pointer (some ⟨cb, 0, none⟩)
 | 1 => v = .pointer (some ⟨cb, 0, none⟩)
 | 2 => v = .pointer (some ⟨cb, 0, none⟩)
 | 3 => v = .pointer (some ⟨P, 0, none⟩)
 | 4 => v = .int .i64 (m : Int)
 | 5 => v = .int .i64 (k : Int)
 | _ => False
theorem qSM (cb P m k : Nat) : ∀ i v w w', gsC cb P m k i v w -> Below w.heap.size w w' -> gsC cb P m k i v w' := by
 intro i v w w' h _
 match i, h with
 | 0, h | 1, h | 2, h | 3, h | 4, h | 5, h => exact h
 | (i + 6), h => exact h.elim
theorem qIR {P : Nat} {I0 : Nat} {L : List Pr} {w : World} (hp : Pool P (I0 : Int) L w) (cb : Nat) (inb : List Bool) (hc : ChAt cb P I0 L.length inb (fun b => w.heap.size <= b) w) (hcb : cb < w.heap.size) (k : Nat) (hk : k < L.length) (hn : L.length <= 1000000) (hI0 : I0 <= L.length) : Calls Tryz.prog 87 #[.pointer (some ⟨cb, 0, none⟩), .int .i64 (k : Int)] w fun e w' => e = .returned (.int .u8 (qGK L inb I0 L.length k)) /\ Below w.heap.size w w' := by
 obtain ⟨x, hx⟩ : ∃ x, L[k].pk = x := ⟨_, rfl⟩;have PK := hid (fun W (hb : Below w.heap.size w W) => hx ▸ qCZ (hp.then hb) hk hn);have HP := hid hp;have HC := hid hc;have hc0 := hc.c0;clear hp hc;refine (callsIn_wide (n := 8)).1 ?_;refine callsIn_of_wp_marks Tryz.func87 rfl trivial ?_ rfl;simp only [Tryz.ntmps87, List.size_toArray, List.length_cons, List.length_nil, Nat.reduceAdd, Nat.reduceSub, Array.replicate_succ, Array.replicate_zero, List.push_toArray, List.append_toArray, List.nil_append, List.cons_append];gi_wp2_with fail
 obtain ⟨V, hV⟩ : ∃ V, V = ((w.alloc (.cells #[.pointer (some ⟨cb, 0, none⟩)] 130)).alloc (.cells #[.int .i64 (k : Int)] 3)).alloc (.cells #[.int .u8 0] 5) := ⟨_, rfl⟩;rw [<- hV];have b1 : Below w.heap.size w V := by rw [hV]; exact (((Below.refl _ w).alloc lR _).alloc (by simp) _).alloc (by simp; omega) _
 have zV : V.heap.size = w.heap.size + 3 := by rw [hV]; simp
 have C2 := hid (show V.cell? ⟨w.heap.size, 0, none⟩ = some (.pointer (some ⟨cb, 0, none⟩)) by rw [hV]; simp [go_sem]);have K3 := hid (show V.cell? ⟨w.heap.size + 1, 0, none⟩ = some (.int .i64 (k : Int)) by rw [hV]; simp [go_sem]);have R4 := hid (show V.cell? ⟨w.heap.size + 1 + 1, 0, none⟩ = some (.int .u8 0) /\ V.frozen? ⟨w.heap.size + 1 + 1, 0, none⟩ = false by rw [hV]; simp [go_sem]);have C0 := hid ((b1.cell (p := ⟨cb, 0, none⟩) hcb).trans hc0);have HCB := hid (show cb < V.heap.size by omega);have H2 := hid (show w.heap.size < V.heap.size by omega);have H3 := hid (show w.heap.size + 1 < V.heap.size by omega);have B1 := hid b1;have ZV := hid zV;clear hV b1 zV hc0;refine wpIn_wide.2 ?_;refine qEC (PP := gsA cb P k x) (Bx := fun g W => qAJ g zPk W) (By := fun g W => ∃ q, Alike x q /\ qAJ g q W) 11 9 10 rfl (by kernel_rfl) (by kernel_rfl) (by decide) (by decide) (by decide) (by decide) (by decide) (by kernel_rfl) (fun i v w' w'' _ _ h _ => qID cb P k x i v w' w'' h) (fun i v w' w'' g _ _ h _ _ => qID cb P k x i v w' w'' h) (fun g w' w'' h hb => h.then hb) (fun g w' w'' h hb => h.elim fun q hq => ⟨q, hq.1, hq.2.then hb⟩) (fun i => match i with | 9 => undef | _ => undef) (by simp [qA2, qA8, qA7, gP]) ?_ ?_ ?_ ?_
 ·intro i o vs W hi hne hneA ho he hBW K hK;simp only [gT, qA2, qA8, qA7, gP] at hK |-;have BW := hid (B1.out.trans (hBW.mono B1.out.size));have HSZ := hid hBW.size;have C2W := hid ((hBW.cell (p := ⟨w.heap.size, 0, none⟩) H2.out).trans C2.out);have C0W := hid ((hBW.cell (p := ⟨cb, 0, none⟩) HCB.out).trans C0.out);have K3W := hid ((hBW.cell (p := ⟨w.heap.size + 1, 0, none⟩) H3.out).trans K3.out);obtain rfl | rfl | rfl | rfl | rfl | rfl | rfl | rfl | rfl | rfl | rfl := c11_ hi <;> simp only [gE] at ho <;> subst ho
  ·rw [if_pos (by rfl)];simp only [gQ] at hK;have HK := hid hK;clear hK he hi hne hneA hBW;have cc := C2W.out;go_simp;exact HK.out _ _ rfl bR
  ·have e0 : vs 0 = .pointer (some ⟨cb, 0, none⟩) := (he ⟨0, .data⟩ (by simp) rfl (by decide) (by decide) : gsA cb P k x 0 (vs 0) W);rw [e0] at hK |-;rw [if_pos (by rfl)];simp only [gQ] at hK;have HK := hid hK;clear hK he hi hne hneA hBW;go_simp;exact HK.out _ _ (by first | rfl | simp [gsA]) bR
  ·have e1 : vs 1 = .pointer (some ⟨cb, 0, none⟩) := (he ⟨1, .data⟩ (by simp) rfl (by decide) (by decide) : gsA cb P k x 1 (vs 1) W);rw [e1] at hK |-;rw [if_pos (by rfl)];simp only [gQ] at hK;have HK := hid hK;clear hK he hi hne hneA hBW;go_simp;exact HK.out _ _ (by first | rfl | simp [gsA]) bR
  ·have e2 : vs 2 = .pointer (some ⟨cb, 0, none⟩) := (he ⟨2, .data⟩ (by simp) rfl (by decide) (by decide) : gsA cb P k x 2 (vs 2) W);rw [e2] at hK |-;rw [if_pos (by rfl)];simp only [gQ] at hK;have HK := hid hK;clear hK he hi hne hneA hBW;have cc := C0W.out;go_simp;exact HK.out _ _ rfl bR
  ·rw [if_pos (by rfl)];simp only [gQ] at hK;have HK := hid hK;clear hK he hi hne hneA hBW;have cc := K3W.out;go_simp;exact HK.out _ _ rfl bR
  ·have e3 : vs 3 = .pointer (some ⟨P, 0, none⟩) := (he ⟨3, .data⟩ (by simp) rfl (by decide) (by decide) : gsA cb P k x 3 (vs 3) W);rw [e3] at hK |-;have e4 : vs 4 = .int .i64 (k : Int) := (he ⟨4, .data⟩ (by simp) rfl (by decide) (by decide) : gsA cb P k x 4 (vs 4) W);rw [e4] at hK |-;rw [if_pos (by rfl)];simp only [gQ] at hK;have HK := hid hK;clear hK he hi hne hneA hBW;have PKW := PK.out W BW.out;unfold Pk.val at PKW;go_simp;go_at_call 48
   refine PKW.mono ?_;rintro en w9 ⟨q, rfl, ha, h⟩;go_simp;exact HK.out _ _ ⟨q, rfl, ha⟩ h
  ·obtain ⟨q5, e5, ha5⟩ := (he ⟨5, .data⟩ (by simp) rfl (by decide) (by decide) : gsA cb P k x 5 (vs 5) W);rw [e5] at hK |-;rw [if_pos (by rfl)];simp only [gQ] at hK;have HK := hid hK;clear hK he hi hne hneA hBW;go_simp;exact HK.out _ _ ⟨q5, rfl, ha5⟩ bR
  ·obtain ⟨q6, e6, ha6⟩ := (he ⟨6, .data⟩ (by simp) rfl (by decide) (by decide) : gsA cb P k x 6 (vs 6) W);rw [e6] at hK |-;rw [if_pos (by rfl)];simp only [gQ] at hK;have HK := hid hK;clear hK he hi hne hneA hBW;go_simp;exact HK.out _ _ ⟨q6, rfl, ha6⟩ bR
  ·obtain ⟨q6, e6, ha6⟩ := (he ⟨6, .data⟩ (by simp) rfl (by decide) (by decide) : gsA cb P k x 6 (vs 6) W);rw [e6] at hK |-;rw [if_pos (by rfl)];simp only [gQ] at hK;have HK := hid hK;clear hK he hi hne hneA hBW;go_simp;exact HK.out _ _ rfl bR
  ·exact absurd rfl hneA
  ·exact absurd rfl hne
 ·intro o vs W ho hBW K hK;simp only [gT, qA2, qA8, qA7, gP] at hK |-;have BW := hid (B1.out.trans (hBW.mono B1.out.size));have HSZ := hid hBW.size;have C2W := hid ((hBW.cell (p := ⟨w.heap.size, 0, none⟩) H2.out).trans C2.out);have C0W := hid ((hBW.cell (p := ⟨cb, 0, none⟩) HCB.out).trans C0.out);have K3W := hid ((hBW.cell (p := ⟨w.heap.size + 1, 0, none⟩) H3.out).trans K3.out);simp only [gE] at ho;subst ho;rw [if_pos (by rfl)];simp only [gQ] at hK;have HK := hid hK;clear hK hBW;go_simp;exact HK.out _ _ HSZ.out (qAJ.new W) (bR.alloc lR _)
 ·intro o vs W g ho he e9 hgw hbx hBW K hK;simp only [gT, qA2, qA8, qA7, gP] at hK |-;have BW := hid (B1.out.trans (hBW.mono B1.out.size));have HSZ := hid hBW.size;have C2W := hid ((hBW.cell (p := ⟨w.heap.size, 0, none⟩) H2.out).trans C2.out);have C0W := hid ((hBW.cell (p := ⟨cb, 0, none⟩) HCB.out).trans C0.out);have K3W := hid ((hBW.cell (p := ⟨w.heap.size + 1, 0, none⟩) H3.out).trans K3.out);simp only [gE] at ho;subst ho;rw [e9] at hK |-;obtain ⟨q7, e7, ha7⟩ := (he ⟨7, .data⟩ (by simp) rfl (by decide) (by decide) : gsA cb P k x 7 (vs 7) W);rw [e7] at hK |-;rw [if_pos (by rfl)];simp only [gQ] at hK;have HK := hid hK;clear hK he hBW;have BS := hid (hbx.set q7);have BR := hid (qBU g q7.cells 0 W);have HGW := hid hgw;obtain ⟨⟨zl, z0, z1, z2, z3, z4, z5, z6, z7, z8, z9, z10, z11, z12, z13, z14⟩, fz, _⟩ := hbx;have f0 := fz 0 (by omega);have f1 := fz 1 (by omega);have f2 := fz 2 (by omega);have f3 := fz 3 (by omega);have f4 := fz 4 (by omega);have f5 := fz 5 (by omega);have f6 := fz 6 (by omega);have f7 := fz 7 (by omega);have f8 := fz 8 (by omega);have f9 := fz 9 (by omega);have f10 := fz 10 (by omega);have f11 := fz 11 (by omega);have f12 := fz 12 (by omega);have f13 := fz 13 (by omega);have f14 := fz 14 (by omega);clear fz zl hgw;unfold zPk at z0 z1 z2 z3 z4 z5 z6 z7 z8 z9 z10 z11 z12 z13 z14;unfold Pk.val at HK |-;go_simp;exact HK.out undef _ ⟨q7, ha7, BS.out⟩ (qHG BR.out)
 ·intro vs W g hall e9 hgw hBy hBW;have e8 : vs 8 = .int .i64 0 := (hall 8 (by decide) (by decide) (by decide) : gsA cb P k x 8 (vs 8) W);obtain ⟨q, ha, hbx⟩ := hBy;simp only [gT, qA2, qA8, qA7, gP];rw [e8, e9];have GA := hid (GoAt.start (w := w) (V := V) (W := W) (cb := cb) (k := k) (g := g) (q := q) (B1.out.trans (hBW.mono B1.out.size)) ZV.out hBW C2.out K3.out R4.out (by have := ZV.out; omega) hbx);have HA := hid ha;have HG := hid hgw;have r4 := GA.out.r4;generalize vs 0 = q0, vs 1 = q1, vs 2 = q2, vs 3 = q3, vs 4 = q4, vs 5 = q5, vs 6 = q6, vs 7 = q7;clear hall e8 e9 hgw ha hbx hBW C2 K3 R4 C0 HCB H2 H3 B1 PK r4;go_wp2_with fail
  gi_wp2_with fail
  obtain ⟨kb, hkb⟩ : ∃ kb, kb = W.heap.size := ⟨_, rfl⟩;rw [<- hkb] at GA |-;clear hkb;generalize W.alloc (.cells #[.int .u8 6] 5) = W2 at *;obtain ⟨n, hn9⟩ : ∃ n, n = L.length := ⟨_, rfl⟩;have HN9 := hid hn9;clear hn9;refine wpIn_wide.2 ?_;refine qAE (PP := gsB cb P I0 n) 11 rfl (by kernel_rfl) (by kernel_rfl) (by decide) (by decide) (qLZ cb P I0 n) (fun _ => undef) (by simp [qA2, gQ]) ?_ ?_
  ·intro i o vs W hi ho he hBW K hK;simp only [gT, qA2, gQ] at hK |-;have GW := hid (GA.out.past (hBW.mono GA.out.hz.2.2.2.2.2.2));have C2W := hid GW.out.c2;have CH := HC.out.then GW.out.old;have C0W := hid CH.c0;have CPW := hid CH.cp;have PLW := hid (HP.out.then GW.out.old);clear CH;obtain rfl | rfl | rfl | rfl | rfl | rfl | rfl | rfl | rfl | rfl | rfl := c11_ hi <;> simp only [gE] at ho <;> subst ho
   iterate 2 ·rw [if_pos (by rfl)];simp only [gQ] at hK;have HK := hid hK;clear hK he hi hBW;have cc := C2W.out;go_simp;exact HK.out _ _ rfl bR
   ·have e1 : vs 1 = _ := he ⟨1, .data⟩ (by simp) rfl;rw [e1] at hK |-;rw [if_pos (by rfl)];simp only [gQ] at hK;have HK := hid hK;clear hK he hi hBW;go_simp;exact HK.out _ _ (by first | rfl | simp [gsB]) bR
   ·have e2 : vs 2 = _ := he ⟨2, .data⟩ (by simp) rfl;rw [e2] at hK |-;rw [if_pos (by rfl)];simp only [gQ] at hK;have HK := hid hK;clear hK he hi hBW;go_simp;exact HK.out _ _ (by first | rfl | simp [gsB]) bR
   ·have e3 : vs 3 = _ := he ⟨3, .data⟩ (by simp) rfl;rw [e3] at hK |-;rw [if_pos (by rfl)];simp only [gQ] at hK;have HK := hid hK;clear hK he hi hBW;have cc := C0W.out;go_simp;exact HK.out _ _ rfl bR
   ·have e4 : vs 4 = _ := he ⟨4, .data⟩ (by simp) rfl;rw [e4] at hK |-;rw [if_pos (by rfl)];simp only [gQ] at hK;have HK := hid hK;clear hK he hi hBW;go_simp;go_at_call 86
    refine (qC9 CPW.out).mono ?_;rintro en w9 ⟨rfl, h⟩;go_simp;exact HK.out _ _ rfl h
   ·rw [if_pos (by rfl)];simp only [gQ] at hK;have HK := hid hK;clear hK he hi hBW;have cc := C2W.out;go_simp;exact HK.out _ _ rfl bR
   ·have e6 : vs 6 = _ := he ⟨6, .data⟩ (by simp) rfl;rw [e6] at hK |-;rw [if_pos (by rfl)];simp only [gQ] at hK;have HK := hid hK;clear hK he hi hBW;go_simp;exact HK.out _ _ (by first | rfl | simp [gsB]) bR
   ·have e7 : vs 7 = _ := he ⟨7, .data⟩ (by simp) rfl;rw [e7] at hK |-;rw [if_pos (by rfl)];simp only [gQ] at hK;have HK := hid hK;clear hK he hi hBW;go_simp;exact HK.out _ _ (by first | rfl | simp [gsB]) bR
   ·have e8 : vs 8 = _ := he ⟨8, .data⟩ (by simp) rfl;rw [e8] at hK |-;rw [if_pos (by rfl)];simp only [gQ] at hK;have HK := hid hK;clear hK he hi hBW;have cc := C0W.out;go_simp;exact HK.out _ _ rfl bR
   ·have e9 : vs 9 = _ := he ⟨9, .data⟩ (by simp) rfl;rw [e9] at hK |-;rw [if_pos (by rfl)];simp only [gQ] at hK;have HK := hid hK;clear hK he hi hBW;have CNT := qBI (PLW.out).at_
    rw [<- HN9.out] at CNT;go_simp;go_at_call 61
    refine CNT.mono ?_;rintro en w9 ⟨rfl, h⟩;go_simp;exact HK.out _ _ rfl h
  ·intro vs W3 hall hBW;have e0 : vs 0 = .pointer (some ⟨cb, 0, none⟩) := (hall 0 (by decide) : gsB cb P I0 n 0 (vs 0) W3);have e5 : vs 5 = .int .i64 (I0 : Int) := (hall 5 (by decide) : gsB cb P I0 n 5 (vs 5) W3);have e10 : vs 10 = .int .i64 (n : Int) := (hall 10 (by decide) : gsB cb P I0 n 10 (vs 10) W3);simp only [gT, qA2, gQ];rw [e0, e5, e10];have G3 := hid (GA.out.past (hBW.mono GA.out.hz.2.2.2.2.2.2));generalize vs 1 = y1, vs 2 = y2, vs 3 = y3, vs 4 = y4, vs 6 = y6, vs 7 = y7, vs 8 = y8, vs 9 = y9;clear hall hBW e0 e5 e10 GA;go_wp2_with fail
   go_at_call 84
   refine (qFS cb (I0 : Int) (n : Int) W3).mono ?_;rintro e W4 ⟨rfl, f1, f2, f3, hb4, hz4⟩;have G4 := hid (G3.out.past (hb4.mono G3.out.hz.2.2.2.2.2.2));have F1 := hid f1;have F2 := hid f2;have F3 := hid f3;have Z4 := hid hz4;have H3 := hid G3.out.hz;clear f1 f2 f3 hb4 hz4 G3;go_wp2_with fail
   gi_wp2_with fail
   have CH4 := HC.out.then G4.out.old;have NM0 := hid (show ∀ (m : Nat) (hm : m < L.length) (y : Pk), Alike L[m].pk y -> nmP L m k = decide (y.name = q.name) from fun m hm y hy => by
    unfold nmP; rw [List.getElem?_eq_getElem hm, List.getElem?_eq_getElem hk];show decide (L[m].pk.name = L[k].pk.name) = _;rw [hy.name, HA.out.name, hx])
   have zz := H3.out
   refine qBB rfl (by decide) (gf := 131) (lb := #[.pointer (some ⟨W3.heap.size + 1, 0, none⟩), .pointer (some ⟨W3.heap.size + 2, 0, none⟩), .pointer (some ⟨W3.heap.size, 0, none⟩)]) rfl trivial (enters_of Tryz.func131 (by kernel_rfl) rfl)
    (qE7 7 (W3.heap.size + 1) (W3.heap.size + 2) W3.heap.size cb P L.length I0 I0 n inb (fun b => b = w.heap.size + 1 + 1 \/ b = kb) W4 (by rw [HN9.out]; exact hI0) (by rw [HN9.out]; exact Nat.le_refl _) hn ⟨by simp; omega, by simp; omega, by simp; omega⟩ F1.out F2.out F3.out (CH4.weak fun b hb => by rcases hb with rfl | rfl <;> omega)) (fun h k => h.trans k) (fun W l o o' _ h hc _ => kx_b W l o o' h hc) bR (fun _ => rfl)
    (GsI L w cb k g kb q) (GsX L w cb k g kb q) (GsI.own (by have := Z4.out; omega)) (fun c => GsX.own (by have := Z4.out; omega) c) ⟨(fun y hy => by cases hy), G4.out⟩ (fun a x _ => { tmps := (a.tmps.setIfInBounds 32 (.int .i64 (x.1 : Int))).setIfInBounds 8 (.int .i64 (x.1 : Int)), defers := [] }) (fun _ _ _ => True) (fun x a' => fun _ _ _ _ h _ _ => h) ?assign ?body ?done ?stop
   case assign =>
    rintro l pre x W K h hK;unfold qEX;gi_wp2
    refine hK _ _ (KeepsFrom.refl _ _) (KX.refl _ _) h ⟨0, ?_, trivial⟩;rfl
   case body =>
    rintro l pre y b W hl0 ⟨h1, h2⟩ _ hlt;obtain ⟨m, hm9⟩ : ∃ m, m = y.1 := ⟨_, rfl⟩;have hml : m < L.length := by have := y.2.1.2; have := HN9.out; omega
    rw [<- hm9];have H1 := hid h1;have GB := hid h2;have PM := hid (fun W' (hb : Below w.heap.size w W') => qCZ (HP.out.then hb) hml hn);have PO := hid (fun W' (hb : Below w.heap.size w W') => qGR (HP.out.then hb) (m : Int) (k : Int) hn);have NMM := hid (NM0.out m hml);have HY := hid hm9;have CB := HC.out.then h2.old;have c2 := h2.c2;have cc0 := CB.c0;clear h1 h2 hm9 hlt CB zz CH4 F1 F2 F3;simp only [gP];gi_wp2_with fail
    refine ⟨trivial, ?_⟩;gi_at_call 48
    refine (CallsIn.inRound l (callsIn_wide.2 (PM.out _ GB.out.old))).mono ?_;rintro e w9 ⟨q9, rfl, ha9, h9⟩;have NME := hid (NMM.out q9 ha9);have B9 := hid (h9.alloc h9.size (.cells #[.string q9.name, .int .i64 q9.epoch, .string q9.ver, .string q9.rel, .int .u8 q9.arch, .string q9.vendor, .slice q9.provA q9.prov.length q9.provC, .slice q9.reqA q9.req.length q9.reqC, .slice q9.conA q9.con.length q9.conC, .slice q9.obsA q9.obs.length q9.obsC, .slice q9.rcmA q9.rcm.length q9.rcmC, .slice q9.supA q9.sup.length q9.supC, .slice q9.sugA q9.sug.length q9.sugC, .slice q9.enhA q9.enh.length q9.enhC, .slice q9.filesA q9.files.length q9.filesC] 28));have G9 := hid (GB.out.past (B9.out.mono GB.out.hz.2.2.2.2.2.2));have nm := G9.out.nm;clear h9 ha9 c2 cc0 GB;have r4 := G9.out.r4;have rf := G9.out.rf;unfold Pk.val;by_cases hnm : q9.name = q.name
    ·have NT := hid (show nmP L m k = true by rw [NME.out]; exact decide_eq_true hnm);rw [<- hnm] at nm;clear hnm;gi_wp2_with fail
     exact ⟨((KeepsOthers.of_grownBy (qA5 B9.out) (fun _ _ h => by cases h)).trans (KeepsOthers.setCell _ _ _)).from _, ⟨rfl, y, List.mem_append_right _ (List.mem_singleton.2 rfl), by rw [<- HY.out]; exact NT.out⟩, _, G9.out.setR 7⟩
    ·have NF := hid (show nmP L m k = false by rw [NME.out]; exact decide_eq_false hnm);have hx2 : (q9.name.toList == q.name.toList) = false := beq_eq_false_iff_ne.2 fun h => hnm (qBD h);have hx3 : ¬ q9.name.toList = q.name.toList := fun h => hnm (qBD h);gi_wp2_with fail
     have c8 := hid (HC.out.then G9.out.old);generalize w9.alloc (.cells #[.string q9.name, .int .i64 q9.epoch, .string q9.ver, .string q9.rel, .int .u8 q9.arch, .string q9.vendor, .slice q9.provA q9.prov.length q9.provC, .slice q9.reqA q9.req.length q9.reqC, .slice q9.conA q9.con.length q9.conC, .slice q9.obsA q9.obs.length q9.obsC, .slice q9.rcmA q9.rcm.length q9.rcmC, .slice q9.supA q9.sup.length q9.supC, .slice q9.sugA q9.sug.length q9.sugC, .slice q9.enhA q9.enh.length q9.enhC, .slice q9.filesA q9.files.length q9.filesC] 28) = W9 at *;refine qAC (PP := gsC cb P m k) 6 rfl (by kernel_rfl) (by kernel_rfl) (by decide) (by decide) (qSM cb P m k) (fun _ => undef) (by simp [qA2, gQ]) ?_ ?_
     ·intro i o vs W hi ho he hBW K hK;simp only [gT, qA2, gQ] at hK |-;have GW := hid (G9.out.past (hBW.mono G9.out.hz.2.2.2.2.2.2));have C2W := hid GW.out.c2;have K3W := hid GW.out.k3;have C0W := hid (HC.out.then GW.out.old).c0;obtain rfl | rfl | rfl | rfl | rfl | rfl := c6_ hi <;> simp only [gE] at ho <;> subst ho
      ·rw [if_pos (by rfl)];simp only [gQ] at hK;have HK := hid hK;clear hK he hi hBW;have cc := C2W.out;gi_step;exact HK.out _ _ rfl bR
      ·have e0 : vs 0 = _ := he ⟨0, .data⟩ (by simp) rfl;rw [e0] at hK |-;rw [if_pos (by rfl)];simp only [gQ] at hK;have HK := hid hK;clear hK he hi hBW;gi_step;exact HK.out _ _ rfl bR
      ·have e1 : vs 1 = _ := he ⟨1, .data⟩ (by simp) rfl;rw [e1] at hK |-;rw [if_pos (by rfl)];simp only [gQ] at hK;have HK := hid hK;clear hK he hi hBW;gi_step;exact HK.out _ _ rfl bR
      ·have e2 : vs 2 = _ := he ⟨2, .data⟩ (by simp) rfl;rw [e2] at hK |-;rw [if_pos (by rfl)];simp only [gQ] at hK;have HK := hid hK;clear hK he hi hBW;have cc := C0W.out;gi_step;exact HK.out _ _ rfl bR
      ·rw [if_pos (by rfl)];simp only [gQ] at hK;have HK := hid hK;clear hK he hi hBW;gi_step;exact HK.out _ _ rfl bR
      ·rw [if_pos (by rfl)];simp only [gQ] at hK;have HK := hid hK;clear hK he hi hBW;have cc := K3W.out;gi_step;exact HK.out _ _ rfl bR
     ·intro vs Wf hall hBW;have e3 : vs 3 = .pointer (some ⟨P, 0, none⟩) := (hall 3 (by decide) : gsC cb P m k 3 (vs 3) Wf);have e4 : vs 4 = .int .i64 (m : Int) := (hall 4 (by decide) : gsC cb P m k 4 (vs 4) Wf);have e5 : vs 5 = .int .i64 (k : Int) := (hall 5 (by decide) : gsC cb P m k 5 (vs 5) Wf);simp only [gT, qA2, gQ];rw [e3, e4, e5];have GF := hid (G9.out.past (hBW.mono G9.out.hz.2.2.2.2.2.2));have PW := PO.out _ GF.out.old;generalize vs 0 = x0, vs 1 = x1, vs 2 = x2;have hBF := hid hBW;clear hall hBW e3 e4 e5 c8;have k7 := GF.out.k7;have kf := GF.out.kf;generalize hob : obsP L (m : Int) (k : Int) = ob at PW;have HOB := hid hob;clear hob;gi_wp2_with fail
      refine ⟨trivial, ?_⟩;gi_at_call 133
      refine (CallsIn.inRound l (callsIn_wide.2 PW)).mono ?_;rintro e w8 ⟨rfl, h8⟩;have G8 := hid (GF.out.past (h8.mono GF.out.hz.2.2.2.2.2.2));have k7 := G8.out.k7;have kf := G8.out.kf;have BT := hid (B9.out.trans ((hBF.out.mono B9.out.size).trans (h8.mono (Nat.le_trans B9.out.size hBF.out.size))));clear h8 GF;have HI : ∀ z ∈ pre ++ [y], nmP L z.1 k = false := fun z hz => by
       rcases List.mem_append.1 hz with hz | hz
       ·exact H1.out z hz
       ·obtain rfl := List.mem_singleton.1 hz;rw [<- HY.out]; exact NF.out
      have HIH := hid HI;clear HI;cases ob
      ·have AN := hid (show (pre ++ [y]).any (fun y => obsP L (y.1 : Int) (k : Int)) = pre.any (fun y => obsP L (y.1 : Int) (k : Int)) by rw [List.any_append, List.any_cons, <- HY.out, HOB.out]; simp);gi_wp2_with fail
       exact ⟨(KeepsOthers.of_grownBy (qA5 BT.out) (fun _ _ h => by cases h)).from _, KX.of BT.out, HIH.out, by rw [AN.out]; exact G8.out⟩
      ·have AN := hid (show (pre ++ [y]).any (fun y => obsP L (y.1 : Int) (k : Int)) = true by rw [List.any_append, List.any_cons, <- HY.out, HOB.out]; simp);gi_wp2_with fail
       exact ⟨((KeepsOthers.of_grownBy (qA5 BT.out) (fun _ _ h => by cases h)).trans (KeepsOthers.setCell _ _ _)).from _, (KX.of BT.out).trans (KX.set _ (Or.inr rfl) _ _), HIH.out, by rw [AN.out]; exact G8.out.setK 8⟩
   case done =>
    rintro D ys W hD hys ⟨h1, h2⟩ hK;have HOK := hid (show qGK L inb I0 n k = if ys.any (fun y => obsP L (y.1 : Int) (k : Int)) then 8 else 6 by
     unfold qGK; rw [<- hys, List.any_map, List.any_map, if_neg]
     ·rfl
     ·intro h;obtain ⟨y, hy, hb⟩ := List.any_eq_true.1 h;have := h1 y hy;simp only [Function.comp] at hb; rw [this] at hb; cases hb)
    generalize (if ys.any (fun y => obsP L (y.1 : Int) (k : Int)) = true then (8 : Int) else 6) = kd at HOK h2;have M7 := hid h2;have HK := hid hK;have HD := hid hD;have k7 := h2.k7;have r4 := h2.r4;have rf := h2.rf;have Z5 := hid zz;clear h1 h2 hys hK hD;gi_wp2
    refine ⟨by simp, .inl ⟨_, _, rfl, run_takeDeferred ((KeepsOthers.setCell _ _ _).same D _ HK.out rfl), ?_⟩⟩;have MP := (M7.out.setR kd).past (belowK_b (n₀ := kb + 1) (w := W4) (by have := Z4.out; have := Z5.out; omega) _ D _ (.deferred none) HD.out ((KeepsOthers.setCell _ ⟨w.heap.size + 1 + 1, 0, none⟩ (.int .u8 kd)).same D _ HK.out rfl) rfl rfl);exact ⟨.int .u8 (qGK L inb I0 n k), by rw [HOK.out]; simp [results, Tryz.results87, go_sem, MP.r4], by rw [HN9.out], MP.old⟩
   case stop =>
    rintro D c pre W hD hpre ⟨⟨rfl, y, hy, hnm⟩, ⟨kd, h2⟩⟩ hK;have HOK := hid (show qGK L inb I0 n k = 7 by
     unfold qGK; rw [if_pos];exact List.any_eq_true.2 ⟨y.1, hpre.subset (List.mem_map_of_mem hy), hnm⟩)
    have M7 := hid h2;have HK := hid hK;have HD := hid hD;have Z5 := hid zz;clear h2 hK hD hy hnm hpre;gi_wp2
    refine ⟨by simp, .inl ⟨_, _, rfl, run_takeDeferred HK.out, ?_⟩⟩;have MP := M7.out.past (belowK_b (n₀ := kb + 1) (w := W4) (by have := Z4.out; have := Z5.out; omega) _ D _ (.deferred none) HD.out HK.out rfl rfl);exact ⟨.int .u8 (qGK L inb I0 n k), by rw [HOK.out]; simp [results, Tryz.results87, go_sem, MP.r4], by rw [HN9.out], MP.old⟩
