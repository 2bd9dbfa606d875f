/- StApply -/
import Derived.Test.YteobmfpbgnmffaaGreatDoorT36
set_option linter.unusedVariables false
set_option maxHeartbeats 16000000
set_option maxRecDepth 100000
open Go.Lib (hid)
set_option linter.unusedSimpArgs false
namespace Go.Proofs.YteobmfpbgnmffaaGreatDoor
open Go.RowKit Go.Shelf Go.Maps
theorem qLI : (Tryz.prog.info? 3).map (fun i => (i.zero, i.size, i.bytes)) = some (some (.int .i64 0), 1, 8) := by kernel_rfl
theorem qDS : Keyed Tryz.prog 3 := int_keyed Tryz.underlying3
theorem qFI (w : World) : (zeroValue 142).run Tryz.prog w = .ok (.agg #[]) w := by kernel_rfl
def kys (D : List (Int × Int)) (i : Nat) : List Int := (D.take i).map fun x => x.2
theorem qDN {D : List (Int × Int)} {i : Nat} (h : i < D.length) : kys D (i + 1) = kys D i ++ [D[i].2] := by unfold kys; rw [List.take_succ_eq_append_getElem h, List.map_append]; rfl
theorem qT8 {z : Int} (h0 : 0 <= z) (h1 : z < 10000000) : (Lit.int .i64 z).wf = true := by
 simp [Lit.wf];exact ⟨by show (-9223372036854775808 : Int) <= z; omega, by show z <= (9223372036854775807 : Int); omega⟩
theorem qQ7 {z : Int} {ins : Nat} {kk : Int} (b : Bool) (hb : b = decide (z < (ins : Int))) (h : (if b then qBT kk else qBA kk) = false) : (if z < (ins : Int) then qBT kk else qBA kk) = false := by
 subst hb; simpa using h
theorem qMA {z : Int} {ins : Nat} {kk : Int} (b : Bool) (hb : b = decide (z < (ins : Int))) (h : (if b then qBT kk else qBA kk) = true) : (if z < (ins : Int) then qBT kk else qBA kk) = true := by
 subst hb; simpa using h
theorem qH8 (n ins : Nat) (T : List Int) : qE0 (n + 1) ins T = qE0 n ins T ++ (if T.contains (n : Int) != decide (n < ins) then [(n : Int)] else []) := by
 unfold qE0;rw [List.range_succ, List.filter_append, List.map_append]
 congr 1
 rw [List.filter_cons];split <;> rfl
theorem qIF {n ins : Nat} (T : List Int) : (qE0 n ins T).length <= n := by
 unfold qE0;rw [List.length_map];have := List.length_filter_le (fun n : Nat => T.contains (n : Int) != decide (n < ins)) (List.range n)
 rwa [List.length_range] at this
theorem qTS {x y : Bool} (h : x = y) (h2 : x = false) : y = false := h ▸ h2
theorem qU7 {x y : Bool} (h : x = y) (h2 : x = true) : y = true := h ▸ h2
def qGP (l : List Int) : DataW Unit := setOf (.agg []) (l.map (Lit.int .i64))
theorem qLK (x : Int) : ∀ l : List Int, l.any ((fun y : Lit => y.sameKey (.int .i64 x)) ∘ Lit.int .i64) = l.contains x
 | [] => rfl
 | a :: r => by
  rw [List.any_cons, List.contains_cons, qLK x r]
  congr 1
  show decide (IntKind.i64 = IntKind.i64 /\ a = x) = (x == a);by_cases e : a = x
  ·subst e;simp
  ·have e' : ¬ x = a := fun h => e h.symm;simp [e, e']
theorem qLR (l : List Int) (x : Int) : Maps.has (qGP l) (.int .i64 x) = l.contains x := by
 unfold qGP;rw [has_setOf _ _ _ (fun y hy => by obtain ⟨_, _, rfl⟩ := List.mem_map.1 hy; trivial), List.any_map];exact qLK x _
theorem qT1 (l : List Int) (x : Int) : qGP (l ++ [x]) = (qGP l).put (.int .i64 x) (.agg []) := by
 unfold qGP;rw [List.map_append, List.map_singleton, setOf_snoc]
def ap6T (P N sb : Nat) (z : Int) (b8 : Bool) (i : Nat) (v : Value) (W : World) : Prop := match i with
 | 0 => v = .pointer (some ⟨sb, 1, none⟩)
 | 1 => v = .int .i64 z
 | 2 | 3 => v = .bool true
 | 4 | 5 | 6 | 7 | 8 => v = undef
 | 9 => v = .bool true
 | _ => False
theorem qQP (P N sb : Nat) (z : Int) (b8 : Bool) : ∀ i v w w', ap6T P N sb z b8 i v w -> Below w.heap.size w w' -> ap6T P N sb z b8 i v w' := by
 intro i v w w' h _
 match i, h with
 | 0, h | 1, h | 2, h | 3, h | 4, h | 5, h | 6, h | 7, h | 8, h | 9, h => exact h
 | (i + 10), h => exact h.elim
def ap6F (P N sb : Nat) (z : Int) (b8 : Bool) (i : Nat) (v : Value) (W : World) : Prop := match i with
 | 0 => v = .pointer (some ⟨sb, 1, none⟩)
 | 1 => v = .int .i64 z
 | 2 | 3 => v = .bool false
 | 4 => v = .pointer (some ⟨sb, 1, none⟩)
 | 5 => v = .int .i64 z
 | 6 => v = .pointer (some ⟨P, 0, none⟩)
 | 7 => v = .int .i64 (N : Int)
 | 8 => v = .bool b8
 | 9 => v = .bool b8
 | _ => False
theorem qOK (P N sb : Nat) (z : Int) (b8 : Bool) : ∀ i v w w', ap6F P N sb z b8 i v w -> Below w.heap.size w w' -> ap6F P N sb z b8 i v w' := by
 intro i v w w' h _
 match i, h with
 | 0, h | 1, h | 2, h | 3, h | 4, h | 5, h | 6, h | 7, h | 8, h | 9, h => exact h
 | (i + 10), h => exact h.elim
def ap13 (P ins sb : Nat) (z : Int) (bi : Bool) (i : Nat) (v : Value) (W : World) : Prop := match i with
 | 0 => v = .pointer (some ⟨sb, 1, none⟩)
 | 1 => v = .int .i64 z
 | 2 => v = .pointer (some ⟨P, 0, none⟩)
 | 3 => v = .int .i64 (ins : Int)
 | 4 => v = .bool bi
 | _ => False
theorem qQF (P ins sb : Nat) (z : Int) (bi : Bool) : ∀ i v w w', ap13 P ins sb z bi i v w -> Below w.heap.size w w' -> ap13 P ins sb z bi i v w' := by
 intro i v w w' h _
 match i, h with
 | 0, h | 1, h | 2, h | 3, h | 4, h => exact h
 | (i + 5), h => exact h.elim
theorem qFV {P : Nat} {ins : Nat} {L : List Pr} {w : World} (hp : Pool P (ins : Int) L w) (A : Option Addr) (c : Nat) (D : List (Int × Int)) (hD : Rd qBG 2 w.heap.size A c D w) (hDl : D.length <= 1000000) (hn : L.length <= 1000000) (hI0 : ins <= L.length) : Calls Tryz.prog 27 #[.pointer (some ⟨P, 0, none⟩), .slice A D.length c] w fun e w' => ∃ v, e = .returned (.tuple #[v, .int .i64 (qAZ L.length ins D)]) /\ Own encI 1 w.heap.size 3 v (qAR L.length ins D) w' /\ Below w.heap.size w w' := by
 obtain ⟨N, hN⟩ : ∃ N, L.length = N := ⟨_, rfl⟩;have HN := hid hN;obtain ⟨m, hm9⟩ : ∃ m, D.length = m := ⟨_, rfl⟩;have HM := hid hm9;have hm1 : m <= 1000000 := by omega
 have hN1 : N <= 1000000 := by omega
 have HP := hid hp;have HD := hid hD;have HIN := hid (show ins <= N by omega);rw [hN];rw [hm9];clear hp hD hN hm9 hDl hn hI0;have hmm := @run_makeMap Tryz.prog;obtain ⟨i0, hi, hz0, hz1, hz2⟩ := info_parts qLI
 go_enter Tryz.func27, Tryz.ntmps27
 go_wp2_with fail
 go_loopw [22] (fun iv wr => ∃ j : Nat, j <= m /\ iv = .int .i64 (j : Int) /\ Hid (∀ i (hi : i < D.length), i < j -> 0 <= D[i].2 /\ D[i].2 < (N : Int)) /\ Below w.heap.size w wr) (fun iv _ => m - (intOf iv).toNat)
 case atStart => exact ⟨0, by omega, rfl, hid (by intro i hi h; omega), Below.refl _ _⟩
 case round =>
  obtain ⟨j, hj, rfl, HS, hB⟩ := hrel;rename World => wr
  have HB := hid hB;by_cases hlt : j < m
  ·have hjl : j < D.length := by have := HM.out; omega
   obtain ⟨b, o, hA, hb, e0, e1⟩ := ((HD.out.below hB).more hB.size).st_at hjl;have HBAD := hid (fun (h : ¬ (0 <= D[j].2 /\ D[j].2 < (N : Int))) => show qAZ N ins D = 5 by
    unfold qAZ;rw [if_pos];rw [<- Bool.not_eq_false, qDG];intro hh;exact h (hh D[j].2 (List.mem_map_of_mem (List.getElem_mem hjl))))
   have HNX := hid (fun (h : 0 <= D[j].2 /\ D[j].2 < (N : Int)) => show ∀ i (hi : i < D.length), i < j + 1 -> 0 <= D[i].2 /\ D[i].2 < (N : Int) from fun i hi hij => by
    by_cases e : i = j
    ·subst e; exact h
    ·exact HS.out i hi (by omega))
   subst hA;generalize D[j].1 = kk at *;generalize D[j].2 = z at *;have i0' : (0 : Int) <= (j : Int) := by omega
   have i1 : (j : Int) < (m : Int) := by omega
   clear hB;go_wp2_with fail
   have S1 := hid (show (wr.alloc (.cells #[.int .u8 kk, .int .i64 z] 61)).cell? ⟨wr.heap.size, 1, none⟩ = some (.int .i64 z) from by simp [go_sem]);have B1 := hid (HB.out.alloc HB.out.size (.cells #[.int .u8 kk, .int .i64 z] 61));have SBL := hid (show wr.heap.size < (wr.alloc (.cells #[.int .u8 kk, .int .i64 z] 61)).heap.size by simp);generalize wr.alloc (.cells #[.int .u8 kk, .int .i64 z] 61) = V at *;generalize wr.heap.size = sb at *;clear e0 e1;by_cases hz : z < 0
   ·have HZ := hid hz;clear hz;have b8 := false;refine qAE (PP := ap6T P N sb z b8) 10 rfl (by kernel_rfl) (by kernel_rfl) (by decide) (by decide) (qQP P N sb z b8) (fun i => match i with | 0 => u26 | 1 => u27 | 2 => u28 | 3 => u29 | 4 => u30 | 5 => u31 | 6 => u32 | 7 => u33 | 8 => u34 | 9 => u35 | _ => undef) (by simp [qA2, gQ]) ?_ ?_
    ·intro i o vs W hi ho he hBW K hK;simp only [gT, qA2, gQ] at hK |-;have BWW := hid (B1.out.trans (hBW.mono B1.out.size));have S1W := hid ((hBW.cell (p := ⟨sb, 1, none⟩) SBL.out).trans S1.out);have PLW := hid (HP.out.then BWW.out);obtain rfl | rfl | rfl | rfl | rfl | rfl | rfl | rfl | rfl | rfl := c10_ hi <;> simp only [gE] at ho <;> subst ho
     ·rw [if_pos (by rfl)];simp only [gQ] at hK;have HK := hid hK;clear hK he hi hBW;go_simp;exact HK.out _ _ (by first | rfl | simp [ap6T]) bR
     ·have e0 : vs 0 = _ := he ⟨0, .data⟩ (by simp) rfl;rw [e0] at hK |-;rw [if_pos (by rfl)];simp only [gQ] at hK;have HK := hid hK;clear hK he hi hBW;have ccS1W := S1W.out;go_simp;exact HK.out _ _ rfl bR
     ·have e1 : vs 1 = _ := he ⟨1, .data⟩ (by simp) rfl;rw [e1] at hK |-;rw [if_pos (by rfl)];simp only [gQ] at hK;have HK := hid hK;clear hK he hi hBW;have hz := HZ.out;go_simp;exact HK.out _ _ (by simp [ap6T, hz]) bR
     ·have e2 : vs 2 = _ := he ⟨2, .data⟩ (by simp) rfl;rw [e2] at hK |-;rw [if_pos (by rfl)];simp only [gQ] at hK;have HK := hid hK;clear hK he hi hBW;go_simp;exact HK.out _ _ (by first | rfl | simp [ap6T]) bR
     ·have e3 : vs 3 = _ := he ⟨3, .guard⟩ (by simp) rfl;rw [e3] at hK |-;refine wN bF ?_;exact hK _ _ rfl bR
     ·have e4 : vs 4 = _ := he ⟨4, .data⟩ (by simp) rfl;rw [e4] at hK |-;have e3 : vs 3 = _ := he ⟨3, .guard⟩ (by simp) rfl;rw [e3] at hK |-;refine wN bF ?_;exact hK _ _ rfl bR
     ·have e3 : vs 3 = _ := he ⟨3, .guard⟩ (by simp) rfl;rw [e3] at hK |-;refine wN bF ?_;exact hK _ _ rfl bR
     ·have e6 : vs 6 = _ := he ⟨6, .data⟩ (by simp) rfl;rw [e6] at hK |-;have e3 : vs 3 = _ := he ⟨3, .guard⟩ (by simp) rfl;rw [e3] at hK |-;refine wN bF ?_;exact hK _ _ rfl bR
     ·have e5 : vs 5 = _ := he ⟨5, .data⟩ (by simp) rfl;rw [e5] at hK |-;have e7 : vs 7 = _ := he ⟨7, .data⟩ (by simp) rfl;rw [e7] at hK |-;have e3 : vs 3 = _ := he ⟨3, .guard⟩ (by simp) rfl;rw [e3] at hK |-;refine wN bF ?_;exact hK _ _ rfl bR
     ·have e3 : vs 3 = _ := he ⟨3, .data⟩ (by simp) rfl;rw [e3] at hK |-;have e8 : vs 8 = _ := he ⟨8, .data⟩ (by simp) rfl;rw [e8] at hK |-;rw [if_pos (by rfl)];simp only [gQ] at hK;have HK := hid hK;clear hK he hi hBW;go_simp;exact HK.out _ _ (by first | rfl | simp [ap6T]) bR
    ·intro vs W2 hall hBW;have e9 : vs 9 = .bool true := (hall 9 (by decide) : ap6T P N sb z b8 9 (vs 9) W2);simp only [gT, qA2, qA8, qA7, gP];rw [e9];generalize vs 0 = q0, vs 1 = q1, vs 2 = q2, vs 3 = q3, vs 4 = q4, vs 5 = q5, vs 6 = q6, vs 7 = q7, vs 8 = q8;have BW2 := hid (B1.out.trans (hBW.mono B1.out.size));clear hall e9;have HE := hid (HBAD.out (by have := HZ.out; omega));have HV := hid (show qAR N ins D = [] by unfold qAR; rw [HE.out]; rfl);go_wp2_with fail
     go_ret2
     exact ⟨_, by rw [HE.out]; rfl, by rw [HV.out]; exact Own.nil_ _ _ _, BW2.out⟩
   ·have HZ := hid hz;clear hz;obtain ⟨b8, hb8⟩ : ∃ b8, b8 = decide ((N : Int) <= z) := ⟨_, rfl⟩;have HB8 := hid hb8;clear hb8;refine qAE (PP := ap6F P N sb z b8) 10 rfl (by kernel_rfl) (by kernel_rfl) (by decide) (by decide) (qOK P N sb z b8) (fun i => match i with | 0 => u26 | 1 => u27 | 2 => u28 | 3 => u29 | 4 => u30 | 5 => u31 | 6 => u32 | 7 => u33 | 8 => u34 | 9 => u35 | _ => undef) (by simp [qA2, gQ]) ?_ ?_
    ·intro i o vs W hi ho he hBW K hK;simp only [gT, qA2, gQ] at hK |-;have BWW := hid (B1.out.trans (hBW.mono B1.out.size));have S1W := hid ((hBW.cell (p := ⟨sb, 1, none⟩) SBL.out).trans S1.out);have PLW := hid (HP.out.then BWW.out);obtain rfl | rfl | rfl | rfl | rfl | rfl | rfl | rfl | rfl | rfl := c10_ hi <;> simp only [gE] at ho <;> subst ho
     ·rw [if_pos (by rfl)];simp only [gQ] at hK;have HK := hid hK;clear hK he hi hBW;go_simp;exact HK.out _ _ (by first | rfl | simp [ap6F]) bR
     ·have e0 : vs 0 = _ := he ⟨0, .data⟩ (by simp) rfl;rw [e0] at hK |-;rw [if_pos (by rfl)];simp only [gQ] at hK;have HK := hid hK;clear hK he hi hBW;have ccS1W := S1W.out;go_simp;exact HK.out _ _ rfl bR
     ·have e1 : vs 1 = _ := he ⟨1, .data⟩ (by simp) rfl;rw [e1] at hK |-;rw [if_pos (by rfl)];simp only [gQ] at hK;have HK := hid hK;clear hK he hi hBW;have hz := HZ.out;go_simp;exact HK.out _ _ (by simp [ap6F, hz]) bR
     ·have e2 : vs 2 = _ := he ⟨2, .data⟩ (by simp) rfl;rw [e2] at hK |-;rw [if_pos (by rfl)];simp only [gQ] at hK;have HK := hid hK;clear hK he hi hBW;go_simp;exact HK.out _ _ (by first | rfl | simp [ap6F]) bR
     ·have e3 : vs 3 = _ := he ⟨3, .guard⟩ (by simp) rfl;rw [e3] at hK |-;rw [if_pos (by rfl)];simp only [gQ] at hK;have HK := hid hK;clear hK he hi hBW;go_simp;exact HK.out _ _ (by first | rfl | simp [ap6F]) bR
     ·have e4 : vs 4 = _ := he ⟨4, .data⟩ (by simp) rfl;rw [e4] at hK |-;have e3 : vs 3 = _ := he ⟨3, .guard⟩ (by simp) rfl;rw [e3] at hK |-;rw [if_pos (by rfl)];simp only [gQ] at hK;have HK := hid hK;clear hK he hi hBW;have ccS1W := S1W.out;go_simp;exact HK.out _ _ rfl bR
     ·have e3 : vs 3 = _ := he ⟨3, .guard⟩ (by simp) rfl;rw [e3] at hK |-;rw [if_pos (by rfl)];simp only [gQ] at hK;have HK := hid hK;clear hK he hi hBW;go_simp;exact HK.out _ _ (by first | rfl | simp [ap6F]) bR
     ·have e6 : vs 6 = _ := he ⟨6, .data⟩ (by simp) rfl;rw [e6] at hK |-;have e3 : vs 3 = _ := he ⟨3, .guard⟩ (by simp) rfl;rw [e3] at hK |-;rw [if_pos (by rfl)];simp only [gQ] at hK;have HK := hid hK;clear hK he hi hBW;have CNT := qBI (PLW.out).at_
      rw [HN.out] at CNT;go_simp;go_at_call 61
      refine CNT.mono ?_;rintro en w9 ⟨rfl, h⟩;go_simp;exact HK.out _ _ rfl h
     ·have e5 : vs 5 = _ := he ⟨5, .data⟩ (by simp) rfl;rw [e5] at hK |-;have e7 : vs 7 = _ := he ⟨7, .data⟩ (by simp) rfl;rw [e7] at hK |-;have e3 : vs 3 = _ := he ⟨3, .guard⟩ (by simp) rfl;rw [e3] at hK |-;rw [if_pos (by rfl)];simp only [gQ] at hK;have HK := hid hK;clear hK he hi hBW;have hb8 := HB8.out;go_simp;exact HK.out _ _ (by simp [ap6F, <- hb8]) bR
     ·have e3 : vs 3 = _ := he ⟨3, .data⟩ (by simp) rfl;rw [e3] at hK |-;have e8 : vs 8 = _ := he ⟨8, .data⟩ (by simp) rfl;rw [e8] at hK |-;rw [if_pos (by rfl)];simp only [gQ] at hK;have HK := hid hK;clear hK he hi hBW;go_simp;exact HK.out _ _ (by first | rfl | simp [ap6F]) bR
    ·intro vs W2 hall hBW;have e9 : vs 9 = .bool b8 := (hall 9 (by decide) : ap6F P N sb z b8 9 (vs 9) W2);simp only [gT, qA2, qA8, qA7, gP];rw [e9];generalize vs 0 = q0, vs 1 = q1, vs 2 = q2, vs 3 = q3, vs 4 = q4, vs 5 = q5, vs 6 = q6, vs 7 = q7, vs 8 = q8;have BW2 := hid (B1.out.trans (hBW.mono B1.out.size));clear hall e9;cases b8
     ·have h8 := HB8.out;have HR := hid (HNX.out (by have := HZ.out; simp at h8; omega));clear h8;go_wp2_with fail
      go_roundw
      case rel => exact ⟨j + 1, by omega, by go_num, HR, BW2.out⟩
      case measure => simp [intOf]; omega
     ·have h8 := HB8.out;have HR := hid (show ¬ (0 <= z /\ z < (N : Int)) by simp at h8; omega);clear h8;have HE := hid (HBAD.out (by exact HR.out));have HV := hid (show qAR N ins D = [] by unfold qAR; rw [HE.out]; rfl);go_wp2_with fail
      go_ret2
      exact ⟨_, by rw [HE.out]; rfl, by rw [HV.out]; exact Own.nil_ _ _ _, BW2.out⟩
  ·obtain rfl : j = m := by omega
   have j1 : ¬ (j : Int) < (j : Int) := by omega
   have HAL := hid (show ∀ i (hi : i < D.length), 0 <= D[i].2 /\ D[i].2 < (N : Int) from fun i hi => HS.out i hi (by have := HM.out; omega));have HBS := hid (show badS N (D.map fun x => x.2) = false from qDG.2 fun z hz => by
    obtain ⟨x, hx, rfl⟩ := List.mem_map.1 hz;obtain ⟨i, hi, rfl⟩ := List.getElem_of_mem hx;exact HAL.out i hi)
   clear HS;go_wp2_with fail
   have BB := hid (show w.heap.size <= wr.heap.size from hB.size);have HKM := hid (show ∀ z : Int, 0 <= z -> z < (N : Int) -> keyOf Tryz.prog 3 (.int .i64 z) = some (.int .i64 z) from fun z h0 h1 => keyOf_int_mk Tryz.underlying3 (qT8 h0 (by omega)));clear hB
   go_loopw [40] (fun iv wx => ∃ i : Nat, i <= j /\ iv = .int .i64 (i : Int) /\ wx.ownsMap Tryz.prog 3 (unitElem (H := Unit)) wr.heap.size i (qGP (kys D i)) /\ Hid (qB6 ins [] D = qB6 ins (kys D i) (D.drop i)) /\ Below wr.heap.size wr wx /\ wr.heap.size < wx.heap.size) (fun iv _ => j - (intOf iv).toNat)
   case atStart => exact ⟨0, by omega, rfl, World.ownsMap_made _ _ _ _, hid rfl, bR.alloc lR _, by simp⟩
   case round =>
    obtain ⟨i, hi', rfl, hown, HF, hB2, hlt2⟩ := hrel;rename World => wx
    have OWN := hid hown;have B2 := hid hB2;have BX := hid (HB.out.trans (hB2.mono HB.out.size));have HLT := hid hlt2;clear hown hB2 hlt2;by_cases hlt2 : i < j
    ·have hil : i < D.length := by have := HM.out; omega
     obtain ⟨b, o, hA, hb, e0, e1⟩ := ((HD.out.below BX.out).more BX.out.size).st_at hil;obtain ⟨z0, z1⟩ := HAL.out i hil;have HST := hid (show qB6 ins [] D = (!(kys D i).contains D[i].2 && (if D[i].2 < (ins : Int) then qBT D[i].1 else qBA D[i].1) && qB6 ins (kys D (i + 1)) (D.drop (i + 1))) from by
      rw [HF.out, List.drop_eq_getElem_cons hil, qDN hil];rfl)
     have HTN := hid (show qGP (kys D (i + 1)) = (qGP (kys D i)).put (.int .i64 D[i].2) (.agg []) from by rw [qDN hil, qT1]);have HHS := hid (qLR (kys D i) D[i].2);subst hA;generalize D[i].1 = kk at *;generalize D[i].2 = z at *;have hkey := HKM.out z z0 z1;have i0' : (0 : Int) <= (i : Int) := by omega
     have i1 : (i : Int) < (j : Int) := by omega
     obtain ⟨bi, hbi⟩ : ∃ bi, bi = decide (z < (ins : Int)) := ⟨_, rfl⟩;have HBI := hid hbi;obtain ⟨tw, htw⟩ : ∃ tw, Maps.has (qGP (kys D i)) (.int .i64 z) = tw := ⟨_, rfl⟩;have HTW := hid htw;have CM := hid (fun W => qD6 kk W);have GM := hid (fun W => qD4 kk W);obtain ⟨kc, hkc⟩ : ∃ kc, qBA kk = kc := ⟨_, rfl⟩;obtain ⟨kg, hkg⟩ : ∃ kg, qBT kk = kg := ⟨_, rfl⟩;rw [hkc] at CM;rw [hkg] at GM;have HKC := hid hkc;have HKG := hid hkg;have HZ0 := hid z0;have HZ1 := hid z1;have HKEY := hid hkey;clear hbi htw hkc hkg z0 z1 hkey;go_wp2_with fail
     have S0 := hid (show (wx.alloc (.cells #[.int .u8 kk, .int .i64 z] 61)).cell? ⟨wx.heap.size, 0, none⟩ = some (.int .u8 kk) from by simp [go_sem]);have S1 := hid (show (wx.alloc (.cells #[.int .u8 kk, .int .i64 z] 61)).cell? ⟨wx.heap.size, 1, none⟩ = some (.int .i64 z) from by simp [go_sem]);have B1 := hid (B2.out.alloc (Nat.le_of_lt HLT.out) (.cells #[.int .u8 kk, .int .i64 z] 61));have SBL := hid (show wx.heap.size < (wx.alloc (.cells #[.int .u8 kk, .int .i64 z] 61)).heap.size by simp);have OWV := hid (OWN.out.alloc (.cells #[.int .u8 kk, .int .i64 z] 61));have HLV := hid (show wr.heap.size < (wx.alloc (.cells #[.int .u8 kk, .int .i64 z] 61)).heap.size by have := HLT.out; simp; omega);clear e0 e1 OWN BX;generalize wx.alloc (.cells #[.int .u8 kk, .int .i64 z] 61) = V at *;generalize wx.heap.size = sb at *;refine qAE (PP := ap13 P ins sb z bi) 5 rfl (by kernel_rfl) (by kernel_rfl) (by decide) (by decide) (qQF P ins sb z bi) (fun i => match i with | 0 => u44 | 1 => u45 | 2 => u46 | 3 => u47 | 4 => u48 | _ => undef) (by simp [qA2, gQ]) ?_ ?_
     ·intro i o vs W hi ho he hBW K hK;simp only [gT, qA2, gQ] at hK |-;have BWW := hid (HB.out.trans ((B1.out.trans (hBW.mono (Nat.le_of_lt HLV.out))).mono BB.out));have S1W := hid ((hBW.cell (p := ⟨sb, 1, none⟩) SBL.out).trans S1.out);have PLW := hid (HP.out.then BWW.out);obtain rfl | rfl | rfl | rfl | rfl := c5_ hi <;> simp only [gE] at ho <;> subst ho
      ·rw [if_pos (by rfl)];simp only [gQ] at hK;have HK := hid hK;clear hK he hi hBW;go_simp;exact HK.out _ _ (by first | rfl | simp [ap13]) bR
      ·have e0 : vs 0 = _ := he ⟨0, .data⟩ (by simp) rfl;rw [e0] at hK |-;rw [if_pos (by rfl)];simp only [gQ] at hK;have HK := hid hK;clear hK he hi hBW;have ccS1W := S1W.out;go_simp;exact HK.out _ _ rfl bR
      ·rw [if_pos (by rfl)];simp only [gQ] at hK;have HK := hid hK;clear hK he hi hBW;go_simp;exact HK.out _ _ (by first | rfl | simp [ap13]) bR
      ·have e2 : vs 2 = _ := he ⟨2, .data⟩ (by simp) rfl;rw [e2] at hK |-;rw [if_pos (by rfl)];simp only [gQ] at hK;have HK := hid hK;clear hK he hi hBW;have CNT := qDD (PLW.out).at_
       go_simp;go_at_call 86
       refine CNT.mono ?_;rintro en w9 ⟨rfl, h⟩;go_simp;exact HK.out _ _ rfl h
      ·have e1 : vs 1 = _ := he ⟨1, .data⟩ (by simp) rfl;rw [e1] at hK |-;have e3 : vs 3 = _ := he ⟨3, .data⟩ (by simp) rfl;rw [e3] at hK |-;rw [if_pos (by rfl)];simp only [gQ] at hK;have HK := hid hK;clear hK he hi hBW;have hb8 := HBI.out;go_simp;exact HK.out _ _ (by simp [ap13, <- hb8]) bR
     ·intro vs W2 hall hBW;have e4 : vs 4 = .bool bi := (hall 4 (by decide) : ap13 P ins sb z bi 4 (vs 4) W2);simp only [gT, qA2, qA8, qA7, gP];rw [e4];generalize vs 0 = q0, vs 1 = q1, vs 2 = q2, vs 3 = q3;have BW2 := hid hBW;clear hall e4;have OW2 := hid (OWV.out.kept (qA5 hBW) (by simp));have HLW := hid (show wr.heap.size < W2.heap.size by have := hBW.size; have := HLV.out; omega);have BV := hid (B1.out.trans (hBW.mono (Nat.le_of_lt HLV.out)));have SBW := hid (show sb < W2.heap.size by have := hBW.size; have := SBL.out; omega);have s0x := (hBW.cell (p := ⟨sb, 0, none⟩) SBL.out).trans S0.out;have s1x := (hBW.cell (p := ⟨sb, 1, none⟩) SBL.out).trans S1.out;have S1X := hid s1x;clear hBW OWV B1;cases tw
      ·cases bi
       ·have sne : sb < W2.heap.size := SBW.out;have s0y := (((Below.refl W2.heap.size W2).alloc lR (.cells #[] 142)).cell (p := ⟨sb, 0, none⟩) SBW.out).trans s0x;go_wp2_with (at_lookup; refine wpList_lookup_own_unit _ rfl _ _ 141 rfl 3 142 qDS Tryz.underlying141 (qFI _) wr.heap.size _ _ rfl OW2.out _ _ rfl HKEY.out ?_; rw [HTW.out])
        go_at_call 31
        refine (CM.out _).mono ?_;rintro e w9 ⟨rfl, h9⟩;have B9 := hid ((BV.out.alloc (Nat.le_of_lt HLW.out) (.cells #[] 142)).trans (h9.mono (by rw [World.size_alloc]; have := HLW.out; omega)));have OW4 := hid ((OW2.out.alloc (.cells #[] 142)).kept (qA5 h9) (by simp));have L9 := hid (show wr.heap.size < w9.heap.size by have h1 := h9.size; have := HLW.out; rw [World.size_alloc] at h1; omega);have s19 := (h9.cell (p := ⟨sb, 1, none⟩) (by show sb < (W2.alloc _).heap.size; rw [World.size_alloc]; have := SBW.out; omega)).trans ((((Below.refl W2.heap.size W2).alloc lR (.cells #[] 142)).cell (p := ⟨sb, 1, none⟩) SBW.out).trans S1X.out);clear h9 s1x s0x s0y OW2 BV sne;cases kc
        ·have HE := hid (show qAZ N ins D = 4 by unfold qAZ; rw [HBS.out, HST.out, qQ7 false HBI.out HKC.out]; simp);have HV := hid (show qAR N ins D = [] by unfold qAR; rw [HE.out]; rfl);go_wp2_with fail
         go_ret2
         exact ⟨_, by rw [HE.out]; rfl, by rw [HV.out]; exact Own.nil_ _ _ _, HB.out.trans (B9.out.mono BB.out)⟩
        ·have HR := hid (show qB6 ins [] D = qB6 ins (kys D (i + 1)) (D.drop (i + 1)) from by rw [HST.out, qTS HHS.out HTW.out, qMA false HBI.out HKC.out]; simp);clear CM GM;go_wp2_with (at_mapUpdate; refine wpList_mapUpdate_own _ rfl _ _ _ 141 rfl 3 142 qDS Tryz.underlying141 (unitElem (H := Unit)) wr.heap.size i _ rfl OW4.out (by unfold maxLen; omega) _ _ _ rfl rfl HKEY.out _ [] unitElem_mk ?_; intro w7 hown7 hgrow7)
         go_roundw
         case rel => exact ⟨i + 1, by omega, by go_num, by rw [HTN.out]; exact hown7, HR, B9.out.grown hgrow7 (Nat.le_of_lt L9.out) (fun j hj => by cases hj; exact Nat.le_refl _), by have := hgrow7.size; have := L9.out; omega⟩
         case measure => simp [intOf]; omega
       ·have sne : sb < W2.heap.size := SBW.out;have s0y := (((Below.refl W2.heap.size W2).alloc lR (.cells #[] 142)).cell (p := ⟨sb, 0, none⟩) SBW.out).trans s0x;go_wp2_with (at_lookup; refine wpList_lookup_own_unit _ rfl _ _ 141 rfl 3 142 qDS Tryz.underlying141 (qFI _) wr.heap.size _ _ rfl OW2.out _ _ rfl HKEY.out ?_; rw [HTW.out])
        go_at_call 33
        refine (GM.out _).mono ?_;rintro e w9 ⟨rfl, h9⟩;have B9 := hid ((BV.out.alloc (Nat.le_of_lt HLW.out) (.cells #[] 142)).trans (h9.mono (by rw [World.size_alloc]; have := HLW.out; omega)));have OW4 := hid ((OW2.out.alloc (.cells #[] 142)).kept (qA5 h9) (by simp));have L9 := hid (show wr.heap.size < w9.heap.size by have h1 := h9.size; have := HLW.out; rw [World.size_alloc] at h1; omega);have s19 := (h9.cell (p := ⟨sb, 1, none⟩) (by show sb < (W2.alloc _).heap.size; rw [World.size_alloc]; have := SBW.out; omega)).trans ((((Below.refl W2.heap.size W2).alloc lR (.cells #[] 142)).cell (p := ⟨sb, 1, none⟩) SBW.out).trans S1X.out);clear h9 s1x s0x s0y OW2 BV sne;cases kg
        ·have HE := hid (show qAZ N ins D = 4 by unfold qAZ; rw [HBS.out, HST.out, qQ7 true HBI.out HKG.out]; simp);have HV := hid (show qAR N ins D = [] by unfold qAR; rw [HE.out]; rfl);go_wp2_with fail
         go_ret2
         exact ⟨_, by rw [HE.out]; rfl, by rw [HV.out]; exact Own.nil_ _ _ _, HB.out.trans (B9.out.mono BB.out)⟩
        ·have HR := hid (show qB6 ins [] D = qB6 ins (kys D (i + 1)) (D.drop (i + 1)) from by rw [HST.out, qTS HHS.out HTW.out, qMA true HBI.out HKG.out]; simp);clear CM GM;go_wp2_with (at_mapUpdate; refine wpList_mapUpdate_own _ rfl _ _ _ 141 rfl 3 142 qDS Tryz.underlying141 (unitElem (H := Unit)) wr.heap.size i _ rfl OW4.out (by unfold maxLen; omega) _ _ _ rfl rfl HKEY.out _ [] unitElem_mk ?_; intro w7 hown7 hgrow7)
         go_roundw
         case rel => exact ⟨i + 1, by omega, by go_num, by rw [HTN.out]; exact hown7, HR, B9.out.grown hgrow7 (Nat.le_of_lt L9.out) (fun j hj => by cases hj; exact Nat.le_refl _), by have := hgrow7.size; have := L9.out; omega⟩
         case measure => simp [intOf]; omega
      ·have HE := hid (show qAZ N ins D = 4 by unfold qAZ; rw [HBS.out, HST.out, qU7 HHS.out HTW.out]; simp);have HV := hid (show qAR N ins D = [] by unfold qAR; rw [HE.out]; rfl);go_wp2_with (at_lookup; refine wpList_lookup_own_unit _ rfl _ _ 141 rfl 3 142 qDS Tryz.underlying141 (qFI _) wr.heap.size _ _ rfl OW2.out _ _ rfl HKEY.out ?_; rw [HTW.out])
       go_ret2
       exact ⟨_, by rw [HE.out]; rfl, by rw [HV.out]; exact Own.nil_ _ _ _, HB.out.trans ((BV.out.alloc (Nat.le_of_lt HLW.out) _).mono BB.out)⟩
    ·obtain rfl : i = j := by omega
     have j2 : ¬ (i : Int) < (i : Int) := by omega
     have HKY := hid (show kys D i = D.map fun x => x.2 from by unfold kys; rw [List.take_of_length_le (by have := HM.out; omega)]);have HE := hid (show qAZ N ins D = 0 by unfold qAZ; rw [HBS.out, HF.out, List.drop_eq_nil_of_le (by have := HM.out; omega)]; rfl);have HV := hid (show qAR N ins D = qE0 N ins (kys D i) by unfold qAR; rw [HE.out, HKY.out]; rfl);have CNT := hid (qBI (HP.out.then BX.out).at_);rw [HN.out] at CNT;clear HF HKY;go_wp2_with fail
     go_at_call 61
     refine CNT.out.mono ?_;rintro e w5 ⟨rfl, h5⟩;have OW5 := hid (OWN.out.kept (qA5 h5) (by simp));have B5 := hid (BX.out.trans (h5.mono BX.out.size));have L5 := hid (show wr.heap.size < w5.heap.size by have := h5.size; have := HLT.out; omega);clear h5 CNT OWN BX B2 HLT;go_wp2_with fail
     go_loopw [14, 83] (fun v iv wy => ∃ n : Nat, n <= N /\ iv = .int .i64 (n : Int) /\ wy.ownsMap Tryz.prog 3 (unitElem (H := Unit)) wr.heap.size i (qGP (kys D i)) /\ Own encI 1 w5.heap.size 3 v (qE0 n ins (kys D i)) wy /\ Below w5.heap.size w5 wy) (fun _ iv _ => N - (intOf iv).toNat)
     case atStart => exact ⟨0, by omega, rfl, OW5.out, Own.nil_ _ _ _, Below.refl _ _⟩
     case round =>
      obtain ⟨n, hn', rfl, hom, how, hby⟩ := hrel;rename World => wy
      have OM := hid hom;have OV := hid how;have BY := hid hby;clear hom how hby;by_cases hlt3 : n < N
      ·have HKEY := hid (HKM.out (n : Int) (by omega) (by omega));have i0' : (0 : Int) <= (n : Int) := by omega
       have i1 : (n : Int) < (N : Int) := by omega
       have HHS := hid (qLR (kys D i) (n : Int));obtain ⟨tw, htw⟩ : ∃ tw, Maps.has (qGP (kys D i)) (.int .i64 (n : Int)) = tw := ⟨_, rfl⟩;have HTW := hid htw;have HTV := hid (show qE0 (n + 1) ins (kys D i) = qE0 n ins (kys D i) ++ (if tw != decide (n < ins) then [(n : Int)] else []) from by rw [qH8, <- HHS.out, htw]);have HTL := hid (show (qE0 n ins (kys D i)).length <= n from qIF _);have BYW := hid (B5.out.trans (BY.out.mono B5.out.size));have INS := hid (fun W (hb : Below w.heap.size w W) => qDD (HP.out.then hb).at_);have OVA := hid (OV.out.alloc (.cells #[] 142));have BA := hid (BY.out.alloc BY.out.size (.cells #[] 142));have OMA := hid (OM.out.alloc (.cells #[] 142));clear htw OV BY;go_wp2_with (at_lookup; refine wpList_lookup_own_unit _ rfl _ _ 141 rfl 3 142 qDS Tryz.underlying141 (qFI _) wr.heap.size _ _ rfl OM.out _ _ rfl HKEY.out ?_; rw [HTW.out])
       go_at_call 86
       refine (INS.out _ (BYW.out.alloc BYW.out.size _)).mono ?_;rintro e w9 ⟨rfl, h9⟩;have OV9 := hid (Own.below OVA.out h9 lR);have OM9 := hid (OMA.out.kept (qA5 h9) (by simp));have B9 := hid (BA.out.trans (h9.mono BA.out.size));clear h9 INS OVA BA OMA OM HKEY HHS;obtain ⟨bi, hbi⟩ : ∃ bi, decide ((n : Int) < (ins : Int)) = bi := ⟨_, rfl⟩;have HBN := hid (show decide (n < ins) = bi from by rw [<- hbi]; exact decide_eq_decide.2 (by omega));rw [HBN.out] at HTV;by_cases hni : (n : Int) < (ins : Int)
       ·obtain rfl : bi = true := by rw [<- hbi]; simpa using hni
        clear hbi;have hn2 : n < ins := by omega
        cases tw
        ·go_wp2_with (at_builtin; refine wpList_append_own _ rfl _ _ 42 rfl w5.heap.size 3 i0 (.int .i64 0) 1 8 Tryz.underlying42 hi hz0 hz1 hz2 rfl (by decide) _ _ _ rfl (World.ownsRow.alloc OV9.out _) ⟨w9.heap.size, 0, none⟩ 1 1 [.int .i64 (n : Int)] rfl rfl ?c1 ?c2 ?c3 ?c4 ?c5 ?c6)
         case c1 => exact cell_one_new _ _ _
         case c2 => simp [Value.oneCell']
         case c3 => have := HTL.out; unfold maxLen; omega
         case c4 => have := HTL.out; omega
         case c5 => simp only [World.size_alloc]; have := B9.out.size; omega
         case c6 =>
          intro v' w6 ho6 hg6 _;have OV6 := hid (Own.snoc (x := (n : Int)) ho6);have OM6 := hid ((OM9.out.alloc _).kept hg6 (fun e => by have := (World.ownsRow.lt OV9.out _ e.symm).1; have := L5.out; omega));have B6 := hid ((B9.out.alloc B9.out.size _).grown hg6 (by simp only [World.size_alloc]; have := B9.out.size; omega) (fun j hj => (World.ownsRow.lt OV9.out j hj).1));clear ho6 hg6;go_wp2_with fail
          go_roundw
          case rel => exact ⟨n + 1, by omega, by go_num, OM6.out, by rw [HTV.out]; exact OV6.out, B6.out⟩
          case measure => simp [intOf]; omega
        ·go_wp2_with fail
         go_roundw
         case rel => exact ⟨n + 1, by omega, by go_num, OM9.out, by rw [HTV.out]; simpa using OV9.out, B9.out⟩
         case measure => simp [intOf]; omega
       ·obtain rfl : bi = false := by rw [<- hbi]; simpa using hni
        clear hbi;have hn2 : ¬ n < ins := by omega
        cases tw
        ·go_wp2_with fail
         go_roundw
         case rel => exact ⟨n + 1, by omega, by go_num, OM9.out, by rw [HTV.out]; simpa using OV9.out, B9.out⟩
         case measure => simp [intOf]; omega
        ·go_wp2_with (at_builtin; refine wpList_append_own _ rfl _ _ 42 rfl w5.heap.size 3 i0 (.int .i64 0) 1 8 Tryz.underlying42 hi hz0 hz1 hz2 rfl (by decide) _ _ _ rfl (World.ownsRow.alloc OV9.out _) ⟨w9.heap.size, 0, none⟩ 1 1 [.int .i64 (n : Int)] rfl rfl ?c1 ?c2 ?c3 ?c4 ?c5 ?c6)
         case c1 => exact cell_one_new _ _ _
         case c2 => simp [Value.oneCell']
         case c3 => have := HTL.out; unfold maxLen; omega
         case c4 => have := HTL.out; omega
         case c5 => simp only [World.size_alloc]; have := B9.out.size; omega
         case c6 =>
          intro v' w6 ho6 hg6 _;have OV6 := hid (Own.snoc (x := (n : Int)) ho6);have OM6 := hid ((OM9.out.alloc _).kept hg6 (fun e => by have := (World.ownsRow.lt OV9.out _ e.symm).1; have := L5.out; omega));have B6 := hid ((B9.out.alloc B9.out.size _).grown hg6 (by simp only [World.size_alloc]; have := B9.out.size; omega) (fun j hj => (World.ownsRow.lt OV9.out j hj).1));clear ho6 hg6;go_wp2_with fail
          go_roundw
          case rel => exact ⟨n + 1, by omega, by go_num, OM6.out, by rw [HTV.out]; exact OV6.out, B6.out⟩
          case measure => simp [intOf]; omega
      ·obtain rfl : n = N := by omega
       have j3 : ¬ (n : Int) < (n : Int) := by omega
       have HBYE := hid (B5.out.trans (BY.out.mono B5.out.size));have HB5 := hid B5.out.size;clear BY B5;go_wp2_with fail
       go_ret2
       exact ⟨_, by rw [HE.out]; rfl, by rw [HV.out]; exact OV.out.more HB5.out, HBYE.out⟩
