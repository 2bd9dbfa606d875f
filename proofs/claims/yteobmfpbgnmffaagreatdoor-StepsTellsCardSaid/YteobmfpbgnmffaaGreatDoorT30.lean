/- StIter -/
import Derived.Test.YteobmfpbgnmffaaGreatDoorT29
set_option linter.unusedVariables false
set_option maxHeartbeats 16000000
set_option maxRecDepth 100000
open Go.Lib (hid)
set_option linter.unusedSimpArgs false
namespace Go.Proofs.YteobmfpbgnmffaaGreatDoor
open Go.RowKit Go.Shelf
attribute [local go_sem] Oper.semAt_some
attribute [local go_sem ↓ high] qB0
def KX (X : Nat -> Prop) (W W' : World) : Prop := (∀ a v, ¬ X a.block -> W.cell? a = some v -> W'.cell? a = some v /\ W'.frozen? a = W.frozen? a) /\ W.heap.size <= W'.heap.size
theorem KX.refl (X : Nat -> Prop) (W : World) : KX X W W := ⟨fun _ _ _ h => ⟨h, rfl⟩, Nat.le_refl _⟩
theorem KX.trans {X : Nat -> Prop} {A B C : World} (h : KX X A B) (k : KX X B C) : KX X A C := ⟨fun a v ha hv => by
 obtain ⟨h1, h2⟩ := h.1 a v ha hv;obtain ⟨k1, k2⟩ := k.1 a v ha h1;exact ⟨k1, k2.trans h2⟩, Nat.le_trans h.2 k.2⟩
theorem KX.of {X : Nat -> Prop} {W W' : World} (h : Below W.heap.size W W') : KX X W W' := ⟨fun a v _ hv => by
 have hl := World.block_lt_of_cell? W _ hv;exact ⟨(h.cell hl).trans hv, h.frozen hl⟩, h.size⟩
theorem KX.set {X : Nat -> Prop} (W : World) {R : Nat} (hR : X R) (i : Nat) (v : Value) : KX X W (W.setCell ⟨R, i, none⟩ v) := ⟨fun a u ha hu => ⟨(World.cell?_setCell_other _ _ _ _ (fun e => ha (by rw [<- e]; exact hR))).trans hu, World.frozen?_setCell _ _ _ _⟩, by simp [World.setCell]⟩
theorem kx_b {X : Nat -> Prop} (W : World) (l : Nat) (o o' : Obj) (h : W.heap[l]? = some o) (hc : o.isCells = false) : KX X W (W.putObj l o') :=
 ⟨fun a v _ hv => ⟨cell_kept hv (grownBy_putObj' W l o') (fun r e => by cases e; exact ⟨o, h, hc⟩), frozen_kept hv (grownBy_putObj' W l o') (fun r e => by cases e; exact ⟨o, h, hc⟩)⟩, (grownBy_putObj' W l o').size⟩
theorem KX.cell {X : Nat -> Prop} {b i : Nat} {W W' : World} {v : Value} (h : KX X W W') (hb : ¬ X b) (hv : W.cell? ⟨b, i, none⟩ = some v) : W'.cell? ⟨b, i, none⟩ = some v := (h.1 ⟨b, i, none⟩ v hb hv).1
def chgd (inb : List Bool) (I : Nat) (k : Nat) : Bool := inb.getD k false != decide ((k : Int) < (I : Int))
def chgl (inb : List Bool) (I a b : Nat) : List Nat := (List.range' a (b - a)).filter (chgd inb I)
abbrev ChgN (inb : List Bool) (I a b : Nat) := { k : Nat // (a <= k /\ k < b) /\ chgd inb I k = true }
def qEX {inb : List Bool} {I a b : Nat} (x : ChgN inb I a b) : Array Value := #[.int .i64 (x.1 : Int)]
theorem qK1 {inb : List Bool} {I a i : Nat} (h : a <= i) : chgl inb I a (i + 1) = chgl inb I a i ++ [i].filter (chgd inb I) := by
 unfold chgl;rw [show i + 1 - a = (i - a) + 1 by omega, List.range'_concat, List.filter_append]
 congr 2
 simp; omega
theorem qUG {inb : List Bool} {I a i : Nat} (h : a <= i) (hc : chgd inb I i = false) : chgl inb I a (i + 1) = chgl inb I a i := by rw [qK1 h]; simp [hc]
theorem qRC {inb : List Bool} {I a i : Nat} (h : a <= i) (hc : chgd inb I i = true) : chgl inb I a (i + 1) = chgl inb I a i ++ [i] := by rw [qK1 h]; simp [hc]
theorem qTG {inb : List Bool} {I : Nat} (a i : Nat) : (chgl inb I a i).length <= i - a := by
 unfold chgl;have := List.length_filter_le (chgd inb I) (List.range' a (i - a));rw [List.length_range'] at this;exact this
theorem qSF {inb : List Bool} {I a i b : Nat} (h : i <= b) : chgl inb I a i <+: chgl inb I a b := by
 unfold chgl;have e : List.range' a (b - a) = List.range' a (i - a) ++ List.range' (a + (i - a)) (b - a - (i - a)) := by
  have h2 := @List.range'_append_1 a (i - a) (b - a - (i - a));rw [h2]
  congr 1
  omega
 rw [e, List.filter_append];exact List.prefix_append _ _
theorem qC9 {P : Nat} {I : Int} {w : World} (h1 : w.cell? ⟨P, 1, none⟩ = some (.int .i64 I)) : Calls Tryz.prog 86 #[.pointer (some ⟨P, 0, none⟩)] w fun e w' => e = .returned (.int .i64 I) /\ Below w.heap.size w w' := by
 go_enter Tryz.func86, Tryz.ntmps86
 go_wp2_with fail
 go_ret;exact ⟨rfl, Below.refl _ _⟩
def itA (l cb P b off n c j9 : Nat) (bi : Bool) (I : Int) (k : Nat) (v : Value) (W : World) : Prop := match k with
 | 0 => v = .pointer (some ⟨cb, 0, none⟩)
 | 1 => v = .pointer (some ⟨cb, 0, none⟩)
 | 2 => v = .pointer (some ⟨cb, 1, none⟩)
 | 3 => v = .slice (some ⟨b, off, none⟩) n c
 | 4 => v = .int .i64 (j9 : Int)
 | 5 => v = .pointer (some ⟨b, off + j9, none⟩)
 | 6 => v = .bool bi
 | 7 => v = .int .i64 (j9 : Int)
 | 8 => v = .pointer (some ⟨cb, 0, none⟩)
 | 9 => v = .pointer (some ⟨cb, 0, none⟩)
 | 10 => v = .pointer (some ⟨cb, 0, none⟩)
 | 11 => v = .pointer (some ⟨P, 0, none⟩)
 | 12 => v = .int .i64 I
 | 13 => v = .bool (decide ((j9 : Int) < I))
 | 14 | 15 => v = .bool false
 | 16 | 17 => v = undef
 | _ => False
theorem qRG (l cb P b off n c j9 : Nat) (bi : Bool) (I : Int) : ∀ k v w w', itA l cb P b off n c j9 bi I k v w -> Below w.heap.size w w' -> itA l cb P b off n c j9 bi I k v w' := by
 intro k v w w' h hb
 match k, h with
 | 0, h | 1, h | 2, h | 3, h | 4, h | 5, h | 6, h | 7, h | 8, h | 9, h | 10, h | 11, h | 12, h | 13, h | 14, h | 15, h | 16, h | 17, h => exact h
 | (k + 18), h => exact h.elim
def itB (l cb P b off n c j9 : Nat) (bi : Bool) (I : Int) (k : Nat) (v : Value) (W : World) : Prop := match k with
 | 0 => v = .pointer (some ⟨cb, 0, none⟩)
 | 1 => v = .pointer (some ⟨cb, 0, none⟩)
 | 2 => v = .pointer (some ⟨cb, 1, none⟩)
 | 3 => v = .slice (some ⟨b, off, none⟩) n c
 | 4 => v = .int .i64 (j9 : Int)
 | 5 => v = .pointer (some ⟨b, off + j9, none⟩)
 | 6 => v = .bool bi
 | 7 => v = .int .i64 (j9 : Int)
 | 8 => v = .pointer (some ⟨cb, 0, none⟩)
 | 9 => v = .pointer (some ⟨cb, 0, none⟩)
 | 10 => v = .pointer (some ⟨cb, 0, none⟩)
 | 11 => v = .pointer (some ⟨P, 0, none⟩)
 | 12 => v = .int .i64 I
 | 13 => v = .bool (decide ((j9 : Int) < I))
 | 14 | 15 => v = .bool true
 | 16 => v = .func (.yield l) #[] #[]
 | 17 => v = .int .i64 (j9 : Int)
 | _ => False
theorem qSG (l cb P b off n c j9 : Nat) (bi : Bool) (I : Int) : ∀ k v w w', itB l cb P b off n c j9 bi I k v w -> Below w.heap.size w w' -> itB l cb P b off n c j9 bi I k v w' := by
 intro k v w w' h hb
 match k, h with
 | 0, h | 1, h | 2, h | 3, h | 4, h | 5, h | 6, h | 7, h | 8, h | 9, h | 10, h | 11, h | 12, h | 13, h | 14, h | 15, h | 16, h | 17, h => exact h
 | (k + 18), h => exact h.elim
theorem qP3 (l nF fb tb xb cb P n c I0 a b9 : Nat) (A : Option Addr) (inb : List Bool) (X : Nat -> Prop) (J Jx : List (ChgN inb I0 a b9) -> World -> Prop) (hBe : ∀ pre W W', Below W.heap.size W W' -> J pre W -> J pre W')
  (hY : ∀ pre (x : ChgN inb I0 a b9) W, J pre W -> pre.length < b9 - a -> YieldAt Fence.wide (nF - 1) Tryz.prog l (qEX x) W fun e W' => (e = .returned (.bool true) /\ J (pre ++ [x]) W' /\ KX X W W') \/ (e = .returned (.bool false) /\ Jx (pre ++ [x]) W'))
  (W : World) (hab : a <= b9) (hbn : b9 <= n) (hn : n <= 1000000) (hX : ¬ X fb /\ ¬ X tb /\ ¬ X xb /\ ¬ X cb /\ ¬ X P) (hfb : W.cell? ⟨fb, 0, none⟩ = some (.int .i64 (a : Int))) (htb : W.cell? ⟨tb, 0, none⟩ = some (.int .i64 (b9 : Int))) (hxb : W.cell? ⟨xb, 0, none⟩ = some (.pointer (some ⟨cb, 0, none⟩)))
  (hc0 : W.cell? ⟨cb, 0, none⟩ = some (.pointer (some ⟨P, 0, none⟩))) (hc1 : W.cell? ⟨cb, 1, none⟩ = some (.slice A n c)) (hrow : ∀ k, k < n -> ∃ b o, A = some ⟨b, o, none⟩ /\ ¬ X b /\ W.cell? ⟨b, o + k, none⟩ = some (.bool (inb.getD k false))) (hcp : W.cell? ⟨P, 1, none⟩ = some (.int .i64 (I0 : Int))) (h0 : J [] W) :
  CallsIn Fence.wide nF Tryz.prog 131 #[.func (.yield l) #[] #[], .pointer (some ⟨fb, 0, none⟩), .pointer (some ⟨tb, 0, none⟩), .pointer (some ⟨xb, 0, none⟩)] W fun e W' => (∃ v, e = .returned v) /\
   ((∃ ys : List (ChgN inb I0 a b9), ys.map (fun x => x.1) = chgl inb I0 a b9 /\ J ys W') \/ (∃ pre : List (ChgN inb I0 a b9), pre.map (fun x => x.1) <+: chgl inb I0 a b9 /\ Jx pre W')) := by
 have HY := hid hY;have HBE := hid hBe;have F0 := hid hfb;have T0 := hid htb;have X00 := hid hxb;have C00 := hid hc0;have C10 := hid hc1;have R0 := hid hrow;have CP0 := hid hcp;have J0 := hid h0;have NF := hid hX;have f0 := hfb;clear hY hBe hfb htb hxb hc0 hc1 hrow hcp h0 hX;refine callsIn_of_wp Tryz.func131 rfl trivial ?_ rfl;simp only [Tryz.ntmps131, List.size_toArray, List.length_cons, List.length_nil, Nat.reduceAdd, Nat.reduceSub, Array.replicate_succ, Array.replicate_zero, List.push_toArray, List.append_toArray, List.nil_append, List.cons_append];gi_wp2_with fail
 clear f0
 gi_loopw [5] (fun iv wr => ∃ (j9 : Nat) (ys : List (ChgN inb I0 a b9)), a <= j9 /\ j9 <= b9 /\ iv = .int .i64 (j9 : Int) /\ ys.map (fun x => x.1) = chgl inb I0 a j9 /\ J ys wr /\ KX X W wr) (fun iv _ => b9 - (intOf iv).toNat)
 case atStart => exact ⟨a, [], Nat.le_refl _, hab, rfl, by simp [chgl], J0.out, KX.refl _ _⟩
 case round =>
  obtain ⟨j9, ys, hai, hib, rfl, hys, hJ, hK⟩ := hrel;rename World => wr
  have HYS := hid hys;have HJ := hid hJ;have KK := hid hK;clear hys hJ hK J0;have t0 := KK.out.cell NF.out.2.1 T0.out;by_cases hlt : j9 < b9
  ·obtain ⟨b, off, hA, hbx, he⟩ := R0.out j9 (by omega);subst hA;have E := hid (KK.out.cell hbx he);have X0 := hid (KK.out.cell NF.out.2.2.1 X00.out);have C0 := hid (KK.out.cell NF.out.2.2.2.1 C00.out);have C1 := hid (KK.out.cell NF.out.2.2.2.1 C10.out);have CP := hid (KK.out.cell NF.out.2.2.2.2 CP0.out);have HIN := hid (show j9 < n by omega);have i0 : (0 : Int) <= (j9 : Int) := by omega
   have i1 : (j9 : Int) < (n : Int) := by omega
   have i2 : (j9 : Int) < (b9 : Int) := by omega
   have hnb : n <= 1000000 := hn;obtain ⟨bi, hbi⟩ : ∃ bi, bi = inb.getD j9 false := ⟨_, rfl⟩;rw [<- hbi] at E;have HBI := hid hbi;clear he hbx hbi;gi_wp2_with fail
   cases hch : (bi != decide ((j9 : Int) < (I0 : Int)))
   ·have h3 := hch;simp at h3;have CHG := hid h3;clear h3;have CSN := hid (show chgl inb I0 a (j9 + 1) = chgl inb I0 a j9 from qUG hai (by unfold chgd; rw [<- HBI.out]; exact hch));clear hch;refine qAC (PP := itA l cb P b off n c j9 bi (I0 : Int)) 18 rfl (by kernel_rfl) (by kernel_rfl) (by decide) (by decide) (qRG l cb P b off n c j9 bi (I0 : Int)) (fun k => match k with | 0 => u12 | 1 => u13 | 2 => u14 | 3 => u15 | 4 => u16 | 5 => u17 | 6 => u18 | 7 => u19 | 8 => u20 | 9 => u21 | 10 => u22 | 11 => u23 | 12 => u24 | 13 => u25 | 14 => u26 | 15 => u27 | 16 => u28 | _ => u29) (by simp [qA2, gQ]) ?_ ?_
    ·intro i o vs W hi ho he hBW K hK;simp only [gT, qA2, gQ] at hK |-;have BW := hid hBW;have X0W := hid ((hBW.cell (p := ⟨xb, 0, none⟩) (World.block_lt_of_cell? wr _ X0.out)).trans X0.out);have C0W := hid ((hBW.cell (p := ⟨cb, 0, none⟩) (World.block_lt_of_cell? wr _ C0.out)).trans C0.out);have C1W := hid ((hBW.cell (p := ⟨cb, 1, none⟩) (World.block_lt_of_cell? wr _ C1.out)).trans C1.out);have EW := hid ((hBW.cell (p := ⟨b, off + j9, none⟩) (World.block_lt_of_cell? wr _ E.out)).trans E.out);have CPW := hid ((hBW.cell (p := ⟨P, 1, none⟩) (World.block_lt_of_cell? wr _ CP.out)).trans CP.out);obtain rfl | rfl | rfl | rfl | rfl | rfl | rfl | rfl | rfl | rfl | rfl | rfl | rfl | rfl | rfl | rfl | rfl | rfl := c18_ hi <;> simp only [gE] at ho <;> subst ho
     ·rw [if_pos (by rfl)];simp only [gQ] at hK;have HK := hid hK;clear hK he hi hBW;have cc := X0W.out;gi_step;exact HK.out _ _ rfl bR
     ·have e0 : vs 0 = _ := he ⟨0, .data⟩ (by simp) rfl;rw [e0] at hK |-;rw [if_pos (by rfl)];simp only [gQ] at hK;have HK := hid hK;clear hK he hi hBW;gi_step;exact HK.out _ _ (by first | rfl | simp [itA]) bR
     ·have e1 : vs 1 = _ := he ⟨1, .data⟩ (by simp) rfl;rw [e1] at hK |-;rw [if_pos (by rfl)];simp only [gQ] at hK;have HK := hid hK;clear hK he hi hBW;gi_step;exact HK.out _ _ (by first | rfl | simp [itA]) bR
     ·have e2 : vs 2 = _ := he ⟨2, .data⟩ (by simp) rfl;rw [e2] at hK |-;rw [if_pos (by rfl)];simp only [gQ] at hK;have HK := hid hK;clear hK he hi hBW;have cc := C1W.out;gi_step;exact HK.out _ _ rfl bR
     ·rw [if_pos (by rfl)];simp only [gQ] at hK;have HK := hid hK;clear hK he hi hBW;gi_step;exact HK.out _ _ (by first | rfl | simp [itA]) bR
     ·have e3 : vs 3 = _ := he ⟨3, .data⟩ (by simp) rfl;rw [e3] at hK |-;have e4 : vs 4 = _ := he ⟨4, .data⟩ (by simp) rfl;rw [e4] at hK |-;rw [if_pos (by rfl)];simp only [gQ] at hK;have HK := hid hK;clear hK he hi hBW;gi_step;exact HK.out _ _ (by first | rfl | simp [itA]) bR
     ·have e5 : vs 5 = _ := he ⟨5, .data⟩ (by simp) rfl;rw [e5] at hK |-;rw [if_pos (by rfl)];simp only [gQ] at hK;have HK := hid hK;clear hK he hi hBW;have cc := EW.out;gi_step;exact HK.out _ _ rfl bR
     ·rw [if_pos (by rfl)];simp only [gQ] at hK;have HK := hid hK;clear hK he hi hBW;gi_step;exact HK.out _ _ (by first | rfl | simp [itA]) bR
     ·rw [if_pos (by rfl)];simp only [gQ] at hK;have HK := hid hK;clear hK he hi hBW;have cc := X0W.out;gi_step;exact HK.out _ _ rfl bR
     ·have e8 : vs 8 = _ := he ⟨8, .data⟩ (by simp) rfl;rw [e8] at hK |-;rw [if_pos (by rfl)];simp only [gQ] at hK;have HK := hid hK;clear hK he hi hBW;gi_step;exact HK.out _ _ (by first | rfl | simp [itA]) bR
     ·have e9 : vs 9 = _ := he ⟨9, .data⟩ (by simp) rfl;rw [e9] at hK |-;rw [if_pos (by rfl)];simp only [gQ] at hK;have HK := hid hK;clear hK he hi hBW;gi_step;exact HK.out _ _ (by first | rfl | simp [itA]) bR
     ·have e10 : vs 10 = _ := he ⟨10, .data⟩ (by simp) rfl;rw [e10] at hK |-;rw [if_pos (by rfl)];simp only [gQ] at hK;have HK := hid hK;clear hK he hi hBW;have cc := C0W.out;gi_step;exact HK.out _ _ rfl bR
     ·have e11 : vs 11 = _ := he ⟨11, .data⟩ (by simp) rfl;rw [e11] at hK |-;rw [if_pos (by rfl)];simp only [gQ] at hK;have HK := hid hK;clear hK he hi hBW;gi_step;refine ⟨trivial, fun h => absurd h (by decide), ?_⟩;gi_at_call 86
      refine (callsIn_wide.2 (qC9 CPW.out)).mono ?_;rintro en w9 ⟨rfl, h⟩;exact HK.out _ _ rfl h
     ·have e7 : vs 7 = _ := he ⟨7, .data⟩ (by simp) rfl;rw [e7] at hK |-;have e12 : vs 12 = _ := he ⟨12, .data⟩ (by simp) rfl;rw [e12] at hK |-;rw [if_pos (by rfl)];simp only [gQ] at hK;have HK := hid hK;clear hK he hi hBW;gi_step;exact HK.out _ _ (by first | rfl | simp [itA]) bR
     ·have e6 : vs 6 = _ := he ⟨6, .data⟩ (by simp) rfl;rw [e6] at hK |-;have e13 : vs 13 = _ := he ⟨13, .data⟩ (by simp) rfl;rw [e13] at hK |-;rw [if_pos (by rfl)];simp only [gQ] at hK;have HK := hid hK;clear hK he hi hBW;have f3 := CHG.out;gi_step;exact HK.out _ _ (by simp [itA, f3]) bR
     ·have e14 : vs 14 = _ := he ⟨14, .data⟩ (by simp) rfl;rw [e14] at hK |-;rw [if_pos (by rfl)];simp only [gQ] at hK;have HK := hid hK;clear hK he hi hBW;gi_step;exact HK.out _ _ (by first | rfl | simp [itA]) bR
     iterate 2 ·have e15 : vs 15 = _ := he ⟨15, .guard⟩ (by simp) rfl;rw [e15] at hK |-;refine wN bF ?_;refine ⟨fun _ _ => trivial, ?_⟩;exact hK _ _ rfl bR
    ·intro vs Wf hall hBW;have e15 : vs 15 = .bool false := (hall 15 (by decide) : itA l cb P b off n c j9 bi (I0 : Int) 15 (vs 15) Wf);simp only [gT, qA2, gQ];rw [e15];have J3 := hid (HBE.out _ _ _ hBW HJ.out);have K3 := hid (KK.out.trans (KX.of hBW));generalize vs 0 = q0, vs 1 = q1, vs 2 = q2, vs 3 = q3, vs 4 = q4, vs 5 = q5, vs 6 = q6, vs 7 = q7, vs 8 = q8, vs 9 = q9, vs 10 = q10, vs 11 = q11, vs 12 = q12, vs 13 = q13, vs 14 = q14, vs 16 = q16, vs 17 = q17;clear hall hBW;gi_wp2_with fail
     all_goals
      refine ⟨fun _ _ => trivial, ?_⟩;gi_wp2_with fail
      go_roundw
      case rel => exact ⟨j9 + 1, ys, by omega, by omega, by go_num, by rw [CSN.out]; exact HYS.out, J3.out, K3.out⟩
      case measure => simp [intOf]; omega
   ·have h3 := hch;simp at h3;have CHG := hid h3;clear h3;have HCH := hid (show chgd inb I0 j9 = true by unfold chgd; rw [<- HBI.out]; exact hch);have CSN := hid (show chgl inb I0 a (j9 + 1) = chgl inb I0 a j9 ++ [j9] from qRC hai HCH.out);have PFX := hid (show chgl inb I0 a (j9 + 1) <+: chgl inb I0 a b9 from qSF (by omega));clear hch;refine qAC (PP := itB l cb P b off n c j9 bi (I0 : Int)) 18 rfl (by kernel_rfl) (by kernel_rfl) (by decide) (by decide) (qSG l cb P b off n c j9 bi (I0 : Int)) (fun k => match k with | 0 => u12 | 1 => u13 | 2 => u14 | 3 => u15 | 4 => u16 | 5 => u17 | 6 => u18 | 7 => u19 | 8 => u20 | 9 => u21 | 10 => u22 | 11 => u23 | 12 => u24 | 13 => u25 | 14 => u26 | 15 => u27 | 16 => u28 | _ => u29) (by simp [qA2, gQ]) ?_ ?_
    ·intro i o vs W hi ho he hBW K hK;simp only [gT, qA2, gQ] at hK |-;have BW := hid hBW;have X0W := hid ((hBW.cell (p := ⟨xb, 0, none⟩) (World.block_lt_of_cell? wr _ X0.out)).trans X0.out);have C0W := hid ((hBW.cell (p := ⟨cb, 0, none⟩) (World.block_lt_of_cell? wr _ C0.out)).trans C0.out);have C1W := hid ((hBW.cell (p := ⟨cb, 1, none⟩) (World.block_lt_of_cell? wr _ C1.out)).trans C1.out);have EW := hid ((hBW.cell (p := ⟨b, off + j9, none⟩) (World.block_lt_of_cell? wr _ E.out)).trans E.out);have CPW := hid ((hBW.cell (p := ⟨P, 1, none⟩) (World.block_lt_of_cell? wr _ CP.out)).trans CP.out);obtain rfl | rfl | rfl | rfl | rfl | rfl | rfl | rfl | rfl | rfl | rfl | rfl | rfl | rfl | rfl | rfl | rfl | rfl := c18_ hi <;> simp only [gE] at ho <;> subst ho
     ·rw [if_pos (by rfl)];simp only [gQ] at hK;have HK := hid hK;clear hK he hi hBW;have cc := X0W.out;gi_step;exact HK.out _ _ rfl bR
     ·have e0 : vs 0 = _ := he ⟨0, .data⟩ (by simp) rfl;rw [e0] at hK |-;rw [if_pos (by rfl)];simp only [gQ] at hK;have HK := hid hK;clear hK he hi hBW;gi_step;exact HK.out _ _ (by first | rfl | simp [itB]) bR
     ·have e1 : vs 1 = _ := he ⟨1, .data⟩ (by simp) rfl;rw [e1] at hK |-;rw [if_pos (by rfl)];simp only [gQ] at hK;have HK := hid hK;clear hK he hi hBW;gi_step;exact HK.out _ _ (by first | rfl | simp [itB]) bR
     ·have e2 : vs 2 = _ := he ⟨2, .data⟩ (by simp) rfl;rw [e2] at hK |-;rw [if_pos (by rfl)];simp only [gQ] at hK;have HK := hid hK;clear hK he hi hBW;have cc := C1W.out;gi_step;exact HK.out _ _ rfl bR
     ·rw [if_pos (by rfl)];simp only [gQ] at hK;have HK := hid hK;clear hK he hi hBW;gi_step;exact HK.out _ _ (by first | rfl | simp [itB]) bR
     ·have e3 : vs 3 = _ := he ⟨3, .data⟩ (by simp) rfl;rw [e3] at hK |-;have e4 : vs 4 = _ := he ⟨4, .data⟩ (by simp) rfl;rw [e4] at hK |-;rw [if_pos (by rfl)];simp only [gQ] at hK;have HK := hid hK;clear hK he hi hBW;gi_step;exact HK.out _ _ (by first | rfl | simp [itB]) bR
     ·have e5 : vs 5 = _ := he ⟨5, .data⟩ (by simp) rfl;rw [e5] at hK |-;rw [if_pos (by rfl)];simp only [gQ] at hK;have HK := hid hK;clear hK he hi hBW;have cc := EW.out;gi_step;exact HK.out _ _ rfl bR
     ·rw [if_pos (by rfl)];simp only [gQ] at hK;have HK := hid hK;clear hK he hi hBW;gi_step;exact HK.out _ _ (by first | rfl | simp [itB]) bR
     ·rw [if_pos (by rfl)];simp only [gQ] at hK;have HK := hid hK;clear hK he hi hBW;have cc := X0W.out;gi_step;exact HK.out _ _ rfl bR
     ·have e8 : vs 8 = _ := he ⟨8, .data⟩ (by simp) rfl;rw [e8] at hK |-;rw [if_pos (by rfl)];simp only [gQ] at hK;have HK := hid hK;clear hK he hi hBW;gi_step;exact HK.out _ _ (by first | rfl | simp [itB]) bR
     ·have e9 : vs 9 = _ := he ⟨9, .data⟩ (by simp) rfl;rw [e9] at hK |-;rw [if_pos (by rfl)];simp only [gQ] at hK;have HK := hid hK;clear hK he hi hBW;gi_step;exact HK.out _ _ (by first | rfl | simp [itB]) bR
     ·have e10 : vs 10 = _ := he ⟨10, .data⟩ (by simp) rfl;rw [e10] at hK |-;rw [if_pos (by rfl)];simp only [gQ] at hK;have HK := hid hK;clear hK he hi hBW;have cc := C0W.out;gi_step;exact HK.out _ _ rfl bR
     ·have e11 : vs 11 = _ := he ⟨11, .data⟩ (by simp) rfl;rw [e11] at hK |-;rw [if_pos (by rfl)];simp only [gQ] at hK;have HK := hid hK;clear hK he hi hBW;gi_step;refine ⟨trivial, fun h => absurd h (by decide), ?_⟩;gi_at_call 86
      refine (callsIn_wide.2 (qC9 CPW.out)).mono ?_;rintro en w9 ⟨rfl, h⟩;exact HK.out _ _ rfl h
     ·have e7 : vs 7 = _ := he ⟨7, .data⟩ (by simp) rfl;rw [e7] at hK |-;have e12 : vs 12 = _ := he ⟨12, .data⟩ (by simp) rfl;rw [e12] at hK |-;rw [if_pos (by rfl)];simp only [gQ] at hK;have HK := hid hK;clear hK he hi hBW;gi_step;exact HK.out _ _ (by first | rfl | simp [itB]) bR
     ·have e6 : vs 6 = _ := he ⟨6, .data⟩ (by simp) rfl;rw [e6] at hK |-;have e13 : vs 13 = _ := he ⟨13, .data⟩ (by simp) rfl;rw [e13] at hK |-;rw [if_pos (by rfl)];simp only [gQ] at hK;have HK := hid hK;clear hK he hi hBW;have f3 := CHG.out;gi_step;exact HK.out _ _ (by simp [itB, f3]) bR
     ·have e14 : vs 14 = _ := he ⟨14, .data⟩ (by simp) rfl;rw [e14] at hK |-;rw [if_pos (by rfl)];simp only [gQ] at hK;have HK := hid hK;clear hK he hi hBW;gi_step;exact HK.out _ _ (by first | rfl | simp [itB]) bR
     iterate 2 ·have e15 : vs 15 = _ := he ⟨15, .guard⟩ (by simp) rfl;rw [e15] at hK |-;rw [if_pos (by rfl)];simp only [gQ] at hK;have HK := hid hK;clear hK he hi hBW;gi_step;exact HK.out _ _ (by first | rfl | simp [itB]) bR
    ·intro vs Wf hall hBW;have e15 : vs 15 = .bool true := (hall 15 (by decide) : itB l cb P b off n c j9 bi (I0 : Int) 15 (vs 15) Wf);have e16 : vs 16 = .func (.yield l) #[] #[] := (hall 16 (by decide) : itB l cb P b off n c j9 bi (I0 : Int) 16 (vs 16) Wf);have e17 : vs 17 = .int .i64 (j9 : Int) := (hall 17 (by decide) : itB l cb P b off n c j9 bi (I0 : Int) 17 (vs 17) Wf);simp only [gT, qA2, gQ];rw [e15, e16, e17];have J3 := hid (HBE.out _ _ _ hBW HJ.out);have K3 := hid (KK.out.trans (KX.of hBW));obtain ⟨x9, hx9⟩ : ∃ x9 : ChgN inb I0 a b9, x9.1 = j9 := ⟨⟨j9, ⟨hai, hlt⟩, HCH.out⟩, rfl⟩;have HLN := hid (show ys.length < b9 - a by have h1 := congrArg List.length HYS.out; rw [List.length_map] at h1; have h2 := qTG (inb := inb) (I := I0) a j9; omega);obtain ⟨fn0, tm0, as0, bd0, hy0, hR0⟩ := HY.out ys x9 Wf J3.out HLN.out;unfold qEX at hy0;rw [hx9] at hy0;have HX9 := hid hx9;clear hx9;generalize vs 0 = q0, vs 1 = q1, vs 2 = q2, vs 3 = q3, vs 4 = q4, vs 5 = q5, vs 6 = q6, vs 7 = q7, vs 8 = q8, vs 9 = q9, vs 10 = q10, vs 11 = q11, vs 12 = q12, vs 13 = q13, vs 14 = q14;clear hall hBW e15 e16 e17;gi_wp2
     refine ⟨fun h => absurd h (by decide), hR0.mono ?_⟩;rintro e W1 (⟨rfl, hJ1, hk1⟩ | ⟨rfl, hJx⟩)
     ·have J4 := hid hJ1;have K4 := hid (K3.out.trans hk1);clear hJ1 hk1 hR0 hy0;gi_wp2_with fail
      go_roundw
      case rel => exact ⟨j9 + 1, ys ++ [x9], by omega, by omega, by go_num, by rw [List.map_append, List.map_singleton, HYS.out, HX9.out, CSN.out], J4.out, K4.out⟩
      case measure => simp [intOf]; omega
     ·have J4 := hid hJx;clear hJx hR0 hy0;gi_wp2_with fail
      refine bodyPost_ret (results_none rfl _ _ _) rfl ?_;exact ⟨⟨_, rfl⟩, .inr ⟨ys ++ [x9], by rw [List.map_append, List.map_singleton, HYS.out, HX9.out, <- CSN.out]; exact PFX.out, J4.out⟩⟩
  ·obtain rfl : j9 = b9 := by omega
   have j1 : ¬ (j9 : Int) < (j9 : Int) := by omega
   gi_wp2_with fail
   refine bodyPost_end (results_none rfl _ _ _) rfl ?_;exact ⟨⟨_, rfl⟩, .inl ⟨ys, HYS.out, HJ.out⟩⟩
