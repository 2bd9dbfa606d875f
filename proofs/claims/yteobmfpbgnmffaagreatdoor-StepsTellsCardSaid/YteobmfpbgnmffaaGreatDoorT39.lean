/- StOf -/
import Derived.Test.YteobmfpbgnmffaaGreatDoorT38
import Derived.Test.YteobmfpbgnmffaaGreatDoorT36
set_option linter.unusedVariables false
set_option maxHeartbeats 16000000
set_option maxRecDepth 100000
open Go.Lib (hid)
set_option linter.unusedSimpArgs false
namespace Go.Proofs.YteobmfpbgnmffaaGreatDoor
open Go.RowKit Go.Shelf
attribute [local go_sem] Oper.semAt_some
attribute [local go_sem ↓ high] qB0
theorem OfAt.start {w W : World} {P cb rb gb n : Nat} {f : Nat -> Bool} (hb : Below w.heap.size w W) (h2 : W.cell? ⟨w.heap.size, 0, none⟩ = some (.pointer (some ⟨P, 0, none⟩))) (c0 : W.cell? ⟨cb, 0, none⟩ = some (.pointer (some ⟨P, 0, none⟩))) (c1 : W.cell? ⟨cb, 1, none⟩ = some (.slice (some ⟨rb, 0, none⟩) n n)) (g0 : W.cell? ⟨gb, 0, none⟩ = some (.pointer none)) (hr : BRow rb n f W) (hcb : w.heap.size < cb) (hrb : w.heap.size < rb) (hgb : w.heap.size < gb) (hrl : rb < W.heap.size) :
  OfAt w P cb rb gb W.heap.size n f (W.setCell ⟨gb, 0, none⟩ (.pointer (some ⟨cb, 0, none⟩))) := by
 have n1 : cb ≠ gb := fun e => by rw [e, g0] at c0; cases c0
 have ne : ∀ b j, b ≠ gb -> (⟨gb, 0, none⟩ : Addr) ≠ ⟨b, j, none⟩ := fun b j hb e => by simp only [Addr.mk.injEq] at e; exact hb e.1.symm
 exact ⟨hb.setCell (p := ⟨gb, 0, none⟩) (by show w.heap.size <= gb; omega) _, (qA0 (ne _ _ (by omega))).trans h2, (qA0 (ne _ _ n1)).trans c0, (qA0 (ne _ _ n1)).trans c1, qAS g0, fun i hi => by
  have n2 : rb ≠ gb := fun e => by have := (hr 0 (by omega)).1; rw [e, g0] at this; cases this
  exact ⟨(qA0 (ne _ _ n2)).trans (hr i hi).1, (World.frozen?_setCell _ _ _ _).trans (hr i hi).2⟩, hcb, hrb, hgb, World.block_lt_of_cell? W _ c0, hrl, World.block_lt_of_cell? W _ g0, by simp [World.setCell]⟩
def OfI {inb : List Bool} {I0 n : Nat} (L : List Pr) (w : World) (P cb rb gb hz ob base : Nat) (f : Nat -> Bool) (pre : List (ChgN inb I0 0 n)) (W : World) : Prop := OfAt w P cb rb gb hz n f W /\ OutAt base ob (pre.map fun y => (qED L inb I0 y.1, (y.1 : Int))) W
def OfX {inb : List Bool} {I0 n : Nat} (c : Code) (pre : List (ChgN inb I0 0 n)) (W : World) : Prop := False
theorem OfAt.own {w : World} {P cb rb gb hz n B : Nat} {f : Nat -> Bool} {β : Type} (hB : hz <= B) : OwnFrom B (fun (_ : β) W => OfAt w P cb rb gb hz n f W) := fun s A C row hs hg hr =>
 hs.past ((Below.refl hz A).grown hg hs.hz.2.2.2.2.2.2 (fun j e => Nat.le_trans hB (hr j e).1))
theorem OutAt.own {β : Type} {base ob B : Nat} (f : β -> List (Int × Int)) : OwnFrom B (fun (s : β) W => OutAt base ob (f s) W) := fun s A C row hs hg hr => by
 obtain ⟨v, h1, h2⟩ := hs.row;refine ⟨⟨v, cell_kept h1 hg fun r e => (hr r e).2, ?_⟩, (frozen_kept h1 hg fun r e => (hr r e).2).trans hs.fz, hs.hz.1, Nat.le_trans hs.hz.2 hg.size⟩;refine World.ownsRow.kept h2 hg ?_
 cases e : v.ownBlock with
 | none => exact .inl rfl
 | some g =>
  right;intro e2;obtain ⟨_, o, ho, hc⟩ := hr g e2.symm;rcases h2.2 with ⟨rfl, _⟩ | ⟨g2, cap, cur, rfl, _, hgb, _⟩
  ·simp [Value.ownBlock] at e
  ·obtain rfl : g2 = g := by simpa [Value.ownBlock] using e
   rw [hgb] at ho; cases ho; cases hc
theorem qU5 {α : Type} {enc : α -> List Value} {size base : Nat} {e : TypeId} {v : Value} {D : List α} {W : World} (h2 : Own enc size base e v D W) {l : Nat} {o : Obj} (hl : W.heap[l]? = some o) (hc : o.isCells = false) (o' : Obj) : Own enc size base e v D (W.putObj l o') := by
 refine World.ownsRow.kept h2 (grownBy_putObj' W l o') ?_
 cases e : v.ownBlock with
 | none => exact .inl rfl
 | some g =>
  right;intro e2;cases e2
  rcases h2.2 with ⟨rfl, _⟩ | ⟨g2, cap, cur, rfl, _, hgb, _⟩
  ·simp [Value.ownBlock] at e
  ·obtain rfl : g2 = l := by simpa [Value.ownBlock] using e
   rw [hgb] at hl; cases hl; cases hc
theorem OfI.own {inb : List Bool} {I0 n : Nat} {L : List Pr} {w : World} {P cb rb gb hz ob base B : Nat} {f : Nat -> Bool} (hB : hz <= B) : OwnFrom B (OfI (inb := inb) (I0 := I0) (n := n) L w P cb rb gb hz ob base f) := OwnFrom.and (OfAt.own hB) (OutAt.own _)
theorem OfX.own {inb : List Bool} {I0 n : Nat} {B : Nat} (c : Code) : OwnFrom B (OfX (inb := inb) (I0 := I0) (n := n) c) := fun s A C row hs hg hr => hs
theorem qRW : (Tryz.prog.info? 61).map (fun i => (i.zero, i.size, i.bytes)) = some (some (.agg #[.int .u8 0, .int .i64 0]), 2, 16) := by kernel_rfl
def ofA (P n s0 : Nat) (i : Nat) (v : Value) (W : World) : Prop := match i with
 | 0 => v = .pointer (some ⟨P, 0, none⟩)
 | 1 => v = .pointer (some ⟨P, 0, none⟩)
 | 2 => v = .int .i64 (n : Int)
 | 3 => ∃ rb, v = .slice (some ⟨rb, 0, none⟩) n n /\ BRow rb n (fun _ => false) W /\ s0 < rb /\ rb < W.heap.size
 | 4 => ∃ rb, v = .agg #[.pointer (some ⟨P, 0, none⟩), .slice (some ⟨rb, 0, none⟩) n n] /\ BRow rb n (fun _ => false) W /\ s0 < rb /\ rb < W.heap.size
 | 5 => ∃ cb rb, v = .pointer (some ⟨cb, 0, none⟩) /\ W.cell? ⟨cb, 0, none⟩ = some (.pointer (some ⟨P, 0, none⟩)) /\ W.cell? ⟨cb, 1, none⟩ = some (.slice (some ⟨rb, 0, none⟩) n n) /\ s0 < cb /\ BRow rb n (fun _ => false) W /\ s0 < rb /\ rb < W.heap.size
 | 6 => ∃ gb, v = .pointer (some ⟨gb, 0, none⟩) /\ W.cell? ⟨gb, 0, none⟩ = some (.pointer none) /\ W.frozen? ⟨gb, 0, none⟩ = false /\ s0 < gb
 | _ => False
theorem qRT (P n s0 : Nat) : ∀ i v w w', ofA P n s0 i v w -> Below w.heap.size w w' -> ofA P n s0 i v w' := by
 intro i v w w' h hb
 match i, h with
 | 0, h | 1, h | 2, h => exact h
 | 3, h => exact h.elim fun rb h => ⟨rb, h.1, h.2.1.then hb, h.2.2.1, Nat.lt_of_lt_of_le h.2.2.2 hb.size⟩
 | 4, h => exact h.elim fun rb h => ⟨rb, h.1, h.2.1.then hb, h.2.2.1, Nat.lt_of_lt_of_le h.2.2.2 hb.size⟩
 | 5, h => obtain ⟨cb, rb, e, c0, c1, hc, hr, h1, h2⟩ := h; exact ⟨cb, rb, e, (hb.cell (World.block_lt_of_cell? w _ c0)).trans c0, (hb.cell (World.block_lt_of_cell? w _ c1)).trans c1, hc, hr.then hb, h1, Nat.lt_of_lt_of_le h2 hb.size⟩
 | 6, h => obtain ⟨gb, e, c0, f0, hg⟩ := h; exact ⟨gb, e, (hb.cell (World.block_lt_of_cell? w _ c0)).trans c0, (hb.frozen (World.block_lt_of_cell? w _ c0)).trans f0, hg⟩
 | (i + 7), h => exact h.elim
def ofB (cb P n : Nat) (i : Nat) (v : Value) (W : World) : Prop := match i with
 | 0 => v = .pointer (some ⟨cb, 0, none⟩)
 | 1 => v = .pointer (some ⟨P, 0, none⟩)
 | 2 => v = .int .i64 (n : Int)
 | _ => False
theorem qSY (cb P n : Nat) : ∀ i v w w', ofB cb P n i v w -> Below w.heap.size w w' -> ofB cb P n i v w' := by
 intro i v w w' h hb
 match i, h with
 | 0, h | 1, h | 2, h => exact h
 | (i + 3), h => exact h.elim
def ofG (cb k : Nat) (kd : Int) (v0 : Value) (i : Nat) (v : Value) (W : World) : Prop := match i with
 | 0 => v = v0
 | 1 => v = .func (.func 87) #[.pointer (some ⟨cb, 0, none⟩)] #[]
 | 2 => v = .int .i64 (k : Int)
 | 3 => v = .int .u8 kd
 | 4 => v = .int .i64 (k : Int)
 | 5 => v = .agg #[.int .u8 kd, .int .i64 (k : Int)]
 | 6 => ∃ h, v = .slice (some ⟨h, 0, none⟩) 1 1 /\ W.cell? ⟨h, 0, none⟩ = some (.int .u8 kd) /\ W.cell? ⟨h, 1, none⟩ = some (.int .i64 (k : Int))
 | _ => False
theorem qT3 (cb k : Nat) (kd : Int) (v0 : Value) : ∀ i v w w', ofG cb k kd v0 i v w -> Below w.heap.size w w' -> ofG cb k kd v0 i v w' := by
 intro i v w w' h hb
 match i, h with
 | 0, h | 1, h | 2, h | 3, h | 4, h | 5, h => exact h
 | 6, h => exact h.elim fun q h => ⟨q, h.1, (hb.cell (World.block_lt_of_cell? w _ h.2.1)).trans h.2.1, (hb.cell (World.block_lt_of_cell? w _ h.2.2)).trans h.2.2⟩
 | (i + 7), h => exact h.elim
def ofC (cb k : Nat) (kd : Int) (v0 : Value) (i : Nat) (v : Value) (W : World) : Prop := match i with
 | 0 => v = v0
 | 1 => v = .func (.func 85) #[.pointer (some ⟨cb, 0, none⟩)] #[]
 | 2 => v = .int .i64 (k : Int)
 | 3 => v = .int .u8 kd
 | 4 => v = .int .i64 (k : Int)
 | 5 => v = .agg #[.int .u8 kd, .int .i64 (k : Int)]
 | 6 => ∃ h, v = .slice (some ⟨h, 0, none⟩) 1 1 /\ W.cell? ⟨h, 0, none⟩ = some (.int .u8 kd) /\ W.cell? ⟨h, 1, none⟩ = some (.int .i64 (k : Int))
 | _ => False
theorem qT0 (cb k : Nat) (kd : Int) (v0 : Value) : ∀ i v w w', ofC cb k kd v0 i v w -> Below w.heap.size w w' -> ofC cb k kd v0 i v w' := by
 intro i v w w' h hb
 match i, h with
 | 0, h | 1, h | 2, h | 3, h | 4, h | 5, h => exact h
 | 6, h => exact h.elim fun q h => ⟨q, h.1, (hb.cell (World.block_lt_of_cell? w _ h.2.1)).trans h.2.1, (hb.cell (World.block_lt_of_cell? w _ h.2.2)).trans h.2.2⟩
 | (i + 7), h => exact h.elim
theorem qMH {P : Nat} {I0 : Nat} {L : List Pr} {w : World} (hp : Pool P (I0 : Int) L w) (A : Option Addr) (c : Nat) (S : List Int) (hS : Rd encI 1 w.heap.size A c S w) (hSl : S.length <= 1000000) (hn : L.length <= 1000000) (hI0 : I0 <= L.length) : Calls Tryz.prog 25 #[.pointer (some ⟨P, 0, none⟩), .slice A S.length c] w fun e w' => ∃ v, e = .returned (.tuple #[v, .int .i64 (if badS L.length S then 5 else 0)]) /\ Own qBG 2 w.heap.size 61 v (qBY L I0 S) w' /\ Below w.heap.size w w' := by
 obtain ⟨er, her⟩ : ∃ er : Int, er = if badS L.length S then 5 else 0 := ⟨_, rfl⟩;rw [<- her];have HER := hid her;clear her;obtain ⟨i0, hi, hz0, hz1, hz2⟩ := info_parts qRW;have HP := hid hp;have HS := hid hS;obtain ⟨n, hn9⟩ : ∃ n, n = L.length := ⟨_, rfl⟩;have HN9 := hid hn9;have hn1 : n <= 1000000 := by omega
 have MK := hid (qNV n hn1);obtain ⟨m, hm9⟩ : ∃ m, m = S.length := ⟨_, rfl⟩;have HM9 := hid hm9;have hm1 : m <= 1000000 := by omega
 rw [<- hm9];clear hp hS hn9 hm9;refine (callsIn_wide (n := 8)).1 ?_;refine callsIn_of_wp_marks Tryz.func25 rfl trivial ?_ rfl;simp only [Tryz.ntmps25, List.size_toArray, List.length_cons, List.length_nil, Nat.reduceAdd, Nat.reduceSub, Array.replicate_succ, Array.replicate_zero, List.push_toArray, List.append_toArray, List.nil_append, List.cons_append];gi_wp2_with fail
 obtain ⟨V, hV⟩ : ∃ V, V = w.alloc (.cells #[.pointer (some ⟨P, 0, none⟩)] 45) := ⟨_, rfl⟩;rw [<- hV];have b1 : Below w.heap.size w V := by rw [hV]; exact (Below.refl _ w).alloc lR _
 have zV : V.heap.size = w.heap.size + 1 := by rw [hV]; simp
 have C2 := hid (show V.cell? ⟨w.heap.size, 0, none⟩ = some (.pointer (some ⟨P, 0, none⟩)) by rw [hV]; simp [go_sem]);have B1 := hid b1;have ZV := hid zV;clear hV b1 zV;refine wpIn_wide.2 ?_;refine qAE (PP := ofA P n w.heap.size) 7 rfl (by kernel_rfl) (by kernel_rfl) (by decide) (by decide) (qRT P n w.heap.size) (fun _ => undef) (by simp [qA2, gQ]) ?_ ?_
 ·intro i o vs W hi ho he hBW K hK;simp only [gT, qA2, gQ] at hK |-;have SZW := hid (show w.heap.size < W.heap.size by have := hBW.size; have := ZV.out; omega);have C2W := hid ((hBW.cell (p := ⟨w.heap.size, 0, none⟩) (by have := ZV.out; show w.heap.size < V.heap.size; omega)).trans C2.out);have PLW := hid (HP.out.then (B1.out.trans (hBW.mono B1.out.size)));obtain rfl | rfl | rfl | rfl | rfl | rfl | rfl := c7_ hi <;> simp only [gE] at ho <;> subst ho
  iterate 2 ·rw [if_pos (by rfl)];simp only [gQ] at hK;have HK := hid hK;clear hK he hi hBW;have ccC2W := C2W.out;go_simp;exact HK.out _ _ rfl bR
  ·have e1 : vs 1 = _ := he ⟨1, .data⟩ (by simp) rfl;rw [e1] at hK |-;rw [if_pos (by rfl)];simp only [gQ] at hK;have HK := hid hK;clear hK he hi hBW;have CNT := qBI (PLW.out).at_
   rw [<- HN9.out] at CNT;go_simp;go_at_call 61
   refine CNT.mono ?_;rintro en w9 ⟨rfl, h⟩;go_simp;exact HK.out _ _ rfl h
  ·have e2 : vs 2 = _ := he ⟨2, .data⟩ (by simp) rfl;rw [e2] at hK |-;rw [if_pos (by rfl)];simp only [gQ] at hK;have HK := hid hK;clear hK he hi hBW;have mk := MK.out W;go_simp;exact HK.out _ _ ⟨_, rfl, BRow.made n W _, SZW.out, by simp⟩ ((Below.refl _ W).alloc lR _)
  ·have e0 : vs 0 = _ := he ⟨0, .data⟩ (by simp) rfl;rw [e0] at hK |-;obtain ⟨rb, e3, hr3, s3, t3⟩ := he ⟨3, .data⟩ (by simp) rfl;rw [e3] at hK |-;rw [if_pos (by rfl)];simp only [gQ] at hK;have HK := hid hK;clear hK he hi hBW;go_simp;exact HK.out _ _ ⟨rb, rfl, hr3, s3, t3⟩ bR
  ·obtain ⟨rb, e4, hr4, s4, t4⟩ := he ⟨4, .data⟩ (by simp) rfl;rw [e4] at hK |-;rw [if_pos (by rfl)];simp only [gQ] at hK;have HK := hid hK;clear hK he hi hBW;have HR4 := hid hr4;clear hr4;go_simp;exact HK.out _ _ ⟨W.heap.size, rb, rfl, by simp [go_sem], by simp [go_sem], SZW.out, HR4.out.then ((Below.refl _ W).alloc lR _), s4, by simp; omega⟩ ((Below.refl _ W).alloc lR _)
  ·rw [if_pos (by rfl)];simp only [gQ] at hK;have HK := hid hK;clear hK he hi hBW;go_simp;exact HK.out _ _ ⟨W.heap.size, rfl, by simp [go_sem], by simp [go_sem], SZW.out⟩ ((Below.refl _ W).alloc lR _)
 ·intro vs W hall hBW;obtain ⟨cb, rb, e5, c0, c1, hcb, hrow, hrb, hrl⟩ : ofA P n w.heap.size 5 (vs 5) W := hall 5 (by decide);obtain ⟨gb, e6, g0, gf, hgb⟩ : ofA P n w.heap.size 6 (vs 6) W := hall 6 (by decide);simp only [gT, qA2, qA8, qA7, gP];rw [e5, e6];generalize vs 0 = q0, vs 1 = q1, vs 2 = q2, vs 3 = q3, vs 4 = q4;have BW := hid (B1.out.trans (hBW.mono B1.out.size));have C2W := hid ((hBW.cell (p := ⟨w.heap.size, 0, none⟩) (by have := ZV.out; show w.heap.size < V.heap.size; omega)).trans C2.out);have HROW := hid hrow;have C0 := hid c0;have C1 := hid c1;clear hall hBW e5 e6 hrow c0 c1 C2 B1;go_wp2_with fail
  have OF := hid (OfAt.start BW.out C2W.out C0.out C1.out g0 HROW.out hcb hrb hgb hrl);generalize W.setCell ⟨gb, 0, none⟩ (.pointer (some ⟨cb, 0, none⟩)) = W1 at *;generalize W.heap.size = hz at *;clear MK BW C2W HROW C0 C1 g0 gf ZV hcb hrb hrl hgb;refine wpIn_wide.2 ?_;go_wp2_with fail
  go_loopw [22] (fun iv wr => ∃ j : Nat, j <= m /\ iv = .int .i64 (j : Int) /\ OfAt w P cb rb gb hz n (St.inS (S.take j)) wr /\ Hid (∀ i (hi : i < S.length), i < j -> 0 <= S[i] /\ S[i] < (n : Int))) (fun iv _ => m - (intOf iv).toNat)
  case atStart => exact ⟨0, by omega, rfl, OF.out, hid (by intro i hi h; omega)⟩
  case round =>
   obtain ⟨j, hj, rfl, hO, HR⟩ := hrel;rename World => wr
   have OA := hid hO;clear OF;by_cases hlt : j < m
   ·have hjl : j < S.length := by have := HM9.out; omega
    obtain ⟨b, o, hA, hb, e0⟩ := ((HS.out.below hO.old).more hO.old.size).int_at hjl;have HBAD := hid (fun (h : ¬ (0 <= S[j] /\ S[j] < (n : Int))) => show badS L.length S = true by
     rw [<- Bool.not_eq_false, qDG];intro hh;have := hh S[j] (List.getElem_mem hjl);have := HN9.out;exact h (by omega))
    have HNX := hid (fun (h : 0 <= S[j] /\ S[j] < (n : Int)) => show ∀ i (hi : i < S.length), i < j + 1 -> 0 <= S[i] /\ S[i] < (n : Int) from fun i hi hij => by
     by_cases e : i = j
     ·subst e; exact h
     ·exact HR.out i hi (by omega))
    have HIS := hid (show ∀ k : Nat, St.inS (S.take (j + 1)) k = (St.inS (S.take j) k || (S[j] == (k : Int))) from fun k => by rw [List.take_succ_eq_append_getElem hjl]; unfold St.inS; rw [List.any_append]; simp);subst hA;generalize S[j] = z at *;have i0' : (0 : Int) <= (j : Int) := by omega
    have i1 : (j : Int) < (m : Int) := by omega
    have p2 := hO.p2;clear hO;by_cases hz0 : z < 0
    ·have HE := hid (HBAD.out (by omega));go_wp2_with fail
     exact ⟨.tuple #[.slice none 0 0, .int .i64 5], by simp [results, Tryz.results25, go_sem], _, by rw [HER.out, HE.out]; rfl, by rw [qDT HE.out]; exact Own.nil_ _ _ _, OA.out.old⟩
    ·have CNT := qBI (HP.out.then OA.out.old).at_
     rw [<- HN9.out] at CNT;have C0 := OA.out.c0;have c1 := OA.out.c1;have g0 := OA.out.g0;have HCN := hid CNT;clear CNT;go_wp2_with fail
     go_at_call 61
     refine HCN.out.mono ?_;rintro e w9 ⟨rfl, h9⟩;have O9 := hid (OA.out.then h9);clear h9 HCN e0 p2 C0 c1 g0;by_cases hzn : z < (n : Int)
     ·obtain ⟨k, rfl⟩ : ∃ k : Nat, z = (k : Int) := ⟨z.toNat, by omega⟩;have hk : k < n := by omega
      have HNX2 := hid (HNX.out (by omega));have c0 := O9.out.c0;have c1 := O9.out.c1;have g0 := O9.out.g0;obtain ⟨r0, rf⟩ := O9.out.row k hk;have OS := hid ((O9.out.set hk).congr (f' := St.inS (S.take (j + 1))) fun i hi => by
       rw [HIS.out];by_cases e : i = k
       ·subst e; simp
       ·rw [if_neg e, show ((k : Int) == (i : Int)) = false from beq_eq_false_iff_ne.2 (by omega), Bool.or_false])
      clear HBAD HNX HIS;go_wp2_with fail
      go_roundw
      case rel => exact ⟨j + 1, by omega, by go_num, OS.out, HNX2.out⟩
      case measure => simp [intOf]; omega
     ·have HE := hid (HBAD.out (by omega));go_wp2_with fail
      exact ⟨.tuple #[.slice none 0 0, .int .i64 5], by simp [results, Tryz.results25, go_sem], _, by rw [HER.out, HE.out]; rfl, by rw [qDT HE.out]; exact Own.nil_ _ _ _, O9.out.old⟩
   ·obtain rfl : j = m := by omega
    have j1 : ¬ (j : Int) < (j : Int) := by omega
    have HBS := hid (show badS L.length S = false from qDG.2 fun z hz => by
     obtain ⟨i, hi, rfl⟩ := List.getElem_of_mem hz;have := HR.out i hi (by have := HM9.out; omega);have := HN9.out;omega)
    have HIB := hid (show ∀ i, i < n -> St.inS S i = (qG8 n S).getD i false from fun i hi => (qTP hi).symm);have OS := hid (OA.out.congr (f' := St.inS S) fun i hi => by rw [List.take_of_length_le (by have := HM9.out; omega)]);clear OA HR hO;go_wp2_with fail
    have OB := hid (OS.out.then ((Below.refl _ wr).alloc lR (.cells #[.slice none 0 0] 43)));have OC := hid (show (wr.alloc (.cells #[.slice none 0 0] 43)).cell? ⟨wr.heap.size, 0, none⟩ = some (.slice none 0 0) /\ (wr.alloc (.cells #[.slice none 0 0] 43)).frozen? ⟨wr.heap.size, 0, none⟩ = false by simp [go_sem]);have HZO := hid (show hz <= wr.heap.size from OS.out.hz.2.2.2.2.2.2);have OZ := hid (show (wr.alloc (.cells #[.slice none 0 0] 43)).heap.size = wr.heap.size + 1 by simp);generalize wr.alloc (.cells #[.slice none 0 0] 43) = V2 at *;generalize wr.heap.size = ob at *;clear OS;refine qAE (PP := ofB cb P n) 3 rfl (by kernel_rfl) (by kernel_rfl) (by decide) (by decide) (qSY cb P n) (fun _ => undef) (by simp [qA2, gQ]) ?_ ?_
    ·intro i o vs W hi ho he hBW K hK;simp only [gT, qA2, gQ] at hK |-;have OWW := hid (OB.out.then hBW);have G0W := hid OWW.out.g0;have P2W := hid OWW.out.p2;have PLW := hid (HP.out.then OWW.out.old);obtain rfl | rfl | rfl := c3_ hi <;> simp only [gE] at ho <;> subst ho
     ·rw [if_pos (by rfl)];simp only [gQ] at hK;have HK := hid hK;clear hK he hi hBW;have ccG0W := G0W.out;go_simp;exact HK.out _ _ rfl bR
     ·rw [if_pos (by rfl)];simp only [gQ] at hK;have HK := hid hK;clear hK he hi hBW;have ccP2W := P2W.out;go_simp;exact HK.out _ _ rfl bR
     ·have e1 : vs 1 = _ := he ⟨1, .data⟩ (by simp) rfl;rw [e1] at hK |-;rw [if_pos (by rfl)];simp only [gQ] at hK;have HK := hid hK;clear hK he hi hBW;have CNT := qBI (PLW.out).at_
      rw [<- HN9.out] at CNT;go_simp;go_at_call 61
      refine CNT.mono ?_;rintro en w9 ⟨rfl, h⟩;go_simp;exact HK.out _ _ rfl h
    ·intro vs W3 hall hBW;have e0 : vs 0 = .pointer (some ⟨cb, 0, none⟩) := (hall 0 (by decide) : ofB cb P n 0 (vs 0) W3);have e2 : vs 2 = .int .i64 (n : Int) := (hall 2 (by decide) : ofB cb P n 2 (vs 2) W3);simp only [gT, qA2, qA8, qA7, gP];rw [e0, e2];generalize vs 1 = q9;have O3 := hid (OB.out.then hBW);have OC3 := hid (show W3.cell? ⟨ob, 0, none⟩ = some (.slice none 0 0) /\ W3.frozen? ⟨ob, 0, none⟩ = false from ⟨(hBW.cell (p := ⟨ob, 0, none⟩) (by have := OZ.out; show ob < V2.heap.size; omega)).trans OC.out.1, (hBW.frozen (p := ⟨ob, 0, none⟩) (by have := OZ.out; show ob < V2.heap.size; omega)).trans OC.out.2⟩);have Z3 := hid (show ob < W3.heap.size by have := hBW.size; have := OZ.out; omega);clear hall hBW e0 e2 OB OC;go_wp2_with fail
     go_at_call 84
     refine (qFS cb ((0 : Nat) : Int) (n : Int) W3).mono ?_;rintro e W4 ⟨rfl, f1, f2, f3, hb4, hz4⟩;have O4 := hid (O3.out.then hb4);have F1 := hid f1;have F2 := hid f2;have F3 := hid f3;have Z4 := hid hz4;have T4 := hid (show OutAt W4.heap.size ob [] W4 from ⟨⟨_, (hb4.cell (p := ⟨ob, 0, none⟩) Z3.out).trans OC3.out.1, Own.nil_ _ _ _⟩, (hb4.frozen (p := ⟨ob, 0, none⟩) Z3.out).trans OC3.out.2, by have := Z3.out; omega, Nat.le_refl _⟩);clear f1 f2 f3 hb4 hz4 O3 OC3;go_wp2_with fail
     refine (wpIn_wide (n := 8)).1 ?_;obtain ⟨inb, hinb⟩ : ∃ inb, inb = qG8 n S := ⟨_, rfl⟩;have HINB := hid hinb;have HIB2 := hid (show ∀ i, i < n -> St.inS S i = inb.getD i false from fun i hi => by rw [hinb]; exact HIB.out i hi);clear hinb HIB;have HB4 := hid (show w.heap.size <= W4.heap.size from O4.out.old.size);have zz := Z3.out;have zo := HZO.out;have z4 := Z4.out;have CH4 := hid (O4.out.ch HP.out rfl HIB2.out (fun b => b = ob \/ W4.heap.size <= b) (fun b hb => by rcases hb with rfl | hb <;> omega))
     refine qBB rfl (by decide) (gf := 131) (lb := #[.pointer (some ⟨W3.heap.size + 1, 0, none⟩), .pointer (some ⟨W3.heap.size + 2, 0, none⟩), .pointer (some ⟨W3.heap.size, 0, none⟩)]) rfl trivial (enters_of Tryz.func131 (by kernel_rfl) rfl)
      (qE7 7 (W3.heap.size + 1) (W3.heap.size + 2) W3.heap.size cb P n I0 0 n inb (fun b => b = ob \/ W4.heap.size <= b) W4 (Nat.zero_le _) lR hn1 ⟨by rintro (h | h) <;> omega, by rintro (h | h) <;> omega, by rintro (h | h) <;> omega⟩ F1.out F2.out F3.out CH4.out) (fun h k => h.trans k) (fun W l o o' _ h hc _ => kx_b W l o o' h hc) bR (fun _ => rfl)
      (OfI L w P cb rb gb hz ob W4.heap.size (St.inS S)) (OfX) (OfI.own (by omega)) (fun c => OfX.own c) ⟨O4.out, T4.out⟩ (fun a x _ => { tmps := (a.tmps.setIfInBounds 45 (.int .i64 (x.1 : Int))).setIfInBounds 10 (.int .i64 (x.1 : Int)), defers := [] }) (fun _ _ _ => True) (fun x a' => fun _ _ _ _ h _ _ => h) ?assign ?body ?done ?stop
     case assign =>
      rintro l pre x W K h hK;unfold qEX;gi_wp2
      refine hK _ _ (KeepsFrom.refl _ _) (KX.refl _ _) h ⟨0, ?_, trivial⟩;rfl
     case body =>
      rintro l pre y b W hl0 ⟨hO, hT⟩ _ hlt;obtain ⟨k, hk9⟩ : ∃ k, k = y.1 := ⟨_, rfl⟩;have hkl : k < n := by have := y.2.1.2; omega
      rw [<- hk9];have GO := hid hO;have GT := hid hT;have HY := hid hk9;have hpl : pre.length < n := by omega
      have g0 := hO.g0;have p2 := hO.p2;have INS := hid (qDD (HP.out.then hO.old).at_);clear hO hT hk9 hlt F1 F2 F3 CH4 T4 O4 zz zo z4;simp only [gP];gi_wp2_with fail
      refine ⟨trivial, ?_⟩;gi_at_call 86
      refine (CallsIn.inRound l (callsIn_wide.2 INS.out)).mono ?_;rintro e w9 ⟨rfl, h9⟩;have O9 := hid (GO.out.then h9);have T9 := hid (GT.out.then h9);have B9 := hid h9;clear h9 INS g0 p2 GT GO;have g0 := O9.out.g0;obtain ⟨kd, hkd⟩ : ∃ kd, kd = qED L inb I0 k := ⟨_, rfl⟩;have HKD := hid hkd;clear hkd;obtain ⟨v0, hv0, ho0⟩ := T9.out.row;have V0 := hid hv0;have OV := hid ho0;clear hv0 ho0;by_cases hki : k < I0
      ·have hki2 : (k : Int) < (I0 : Int) := by omega
       gi_wp2_with fail
       have KND := hid (fun W' (hW : OfAt w P cb rb gb hz n (St.inS S) W') => show Calls Tryz.prog 87 #[.pointer (some ⟨cb, 0, none⟩), .int .i64 (k : Int)] W' fun e w' => e = .returned (.int .u8 kd) /\ Below W'.heap.size W' w' from by
        have hch := hW.ch (inb := inb) HP.out rfl HIB2.out (fun b => W'.heap.size <= b) (fun b hb => by have := hW.hz; omega);rw [HN9.out] at hch;have h := qIR (HP.out.then hW.old) cb inb hch (by have := hW.hz; omega) k (by have := HN9.out; omega) (by have := HN9.out; omega) hI0;rw [HKD.out];unfold qED;rw [if_pos hki];exact h)
       have O5 := hid (show 0 = 0 from rfl);refine qAC (PP := ofG cb k kd v0) 7 rfl (by kernel_rfl) (by kernel_rfl) (by decide) (by decide) (qT3 cb k kd v0) (fun _ => undef) (by simp [qA2, gQ]) ?_ ?_
       ·intro i o vs W hi ho he hBW K hK;simp only [gT, qA2, gQ] at hK |-;have OWW := hid (O9.out.then hBW);have V0W := hid ((hBW.cell (p := ⟨ob, 0, none⟩) (World.block_lt_of_cell? w9 _ V0.out)).trans V0.out);obtain rfl | rfl | rfl | rfl | rfl | rfl | rfl := c7_ hi <;> simp only [gE] at ho <;> subst ho
        ·rw [if_pos (by rfl)];simp only [gQ] at hK;have HK := hid hK;clear hK he hi hBW;have ccV0W := V0W.out;gi_step;exact HK.out _ _ rfl bR
        iterate 2 ·rw [if_pos (by rfl)];simp only [gQ] at hK;have HK := hid hK;clear hK he hi hBW;gi_step;exact HK.out _ _ rfl bR
        ·have e1 : vs 1 = _ := he ⟨1, .data⟩ (by simp) rfl;rw [e1] at hK |-;have e2 : vs 2 = _ := he ⟨2, .data⟩ (by simp) rfl;rw [e2] at hK |-;rw [if_pos (by rfl)];simp only [gQ] at hK;have HK := hid hK;clear hK he hi hBW;have KW := KND.out W OWW.out;gi_step;refine ⟨trivial, ?_⟩;gi_at_call 87
         refine (CallsIn.inRound l (callsIn_wide.2 KW)).mono ?_;rintro en w9 ⟨rfl, h⟩;exact HK.out _ _ rfl h
        ·rw [if_pos (by rfl)];simp only [gQ] at hK;have HK := hid hK;clear hK he hi hBW;gi_step;exact HK.out _ _ rfl bR
        ·have e3 : vs 3 = _ := he ⟨3, .data⟩ (by simp) rfl;rw [e3] at hK |-;have e4 : vs 4 = _ := he ⟨4, .data⟩ (by simp) rfl;rw [e4] at hK |-;rw [if_pos (by rfl)];simp only [gQ] at hK;have HK := hid hK;clear hK he hi hBW;gi_step;exact HK.out _ _ rfl bR
        ·have e5 : vs 5 = _ := he ⟨5, .data⟩ (by simp) rfl;rw [e5] at hK |-;rw [if_pos (by rfl)];simp only [gQ] at hK;have HK := hid hK;clear hK he hi hBW;gi_step;exact HK.out _ _ ⟨W.heap.size, rfl, by simp [go_sem], by simp [go_sem]⟩ ((Below.refl _ W).alloc lR _)
       ·intro vs W5 hall hBW;have e0 : vs 0 = v0 := (hall 0 (by decide) : ofG cb k kd v0 0 (vs 0) W5);obtain ⟨hb7, e6, hx0, hx1⟩ : ofG cb k kd v0 6 (vs 6) W5 := hall 6 (by decide);simp only [gT, qA2, qA8, qA7, gP];rw [e0, e6];generalize vs 1 = r1, vs 2 = r2, vs 3 = r3, vs 4 = r4, vs 5 = r5;have V5 := hid ((hBW.cell (p := ⟨ob, 0, none⟩) (World.block_lt_of_cell? w9 _ V0.out)).trans V0.out);have OV5 := hid (Own.below OV.out hBW lR);have T5 := hid (T9.out.then hBW);have B5 := hid (B9.out.trans (hBW.mono B9.out.size));have O55 := hid (O9.out.then hBW);have hlen : (pre.map fun y => (qED L inb I0 y.1, (y.1 : Int))).length = pre.length := List.length_map _;obtain ⟨DL, hDL⟩ : ∃ DL : List (Int × Int), DL = pre.map fun y => (qED L inb I0 y.1, (y.1 : Int)) := ⟨_, rfl⟩;rw [<- hDL] at OV5 T5 hlen;have HDL := hid hDL;clear hDL hall hBW e0 e6 O9 T9 B9 V0 OV O5 KND g0;gi_wp2_with (gi_at_builtin; refine wpListIn_append_own _ rfl _ _ 43 rfl W4.heap.size 61 i0 (.agg #[.int .u8 0, .int .i64 0]) 2 16 Tryz.underlying43 hi hz0 hz1 hz2 rfl (by decide) _ _ _ rfl OV5.out ⟨hb7, 0, none⟩ 1 1 [.int .u8 kd, .int .i64 (k : Int)] rfl rfl ?c1 ?c2 ?c3 ?c4 ?c5 ?c6)
        case c1 =>
         intro j u hu
         match j, hu with
         | 0, hu => cases hu; exact hx0
         | 1, hu => cases hu; exact hx1
         | (j + 2), hu => cases hu
        case c2 => simp [Value.oneCell']
        case c3 => rw [hlen]; unfold maxLen; omega
        case c4 => rw [hlen]; omega
        case c5 => exact T5.out.hz.2
        case c6 =>
         intro v' w6 ho6 hg6 _;rw [<- hlen] at ho6;obtain ⟨A9, c9, rfl⟩ := qAF ho6;obtain ⟨⟨q1, q2⟩, q3, q4, q5, q6⟩ := OutAt.more (x := (kd, (k : Int))) (v' := .slice A9 (DL.length + 1) c9) T5.out.hz T5.out.fz V5.out OV5.out hg6 (Own.snoc ho6);have Q3 := hid q3;have Q4 := hid q4;have Q5 := hid q5;have O6 := hid (O55.out.past (q6.mono HZO.out));clear q3 q4 q5 q6 hlen;gi_wp2_with fail
         exact ⟨((KeepsOthers.of_grownBy (qA5 B5.out) (fun _ _ h => by cases h)).trans Q5.out).from _, (KX.of B5.out).trans Q4.out, O6.out, by rw [List.map_append, List.map_singleton, <- HY.out, <- HKD.out, <- HDL.out]; exact Q3.out⟩
      ·have hki2 : ¬ (k : Int) < (I0 : Int) := by omega
       gi_wp2_with fail
       have KND := hid (fun W' (hW : OfAt w P cb rb gb hz n (St.inS S) W') => show Calls Tryz.prog 85 #[.pointer (some ⟨cb, 0, none⟩), .int .i64 (k : Int)] W' fun e w' => e = .returned (.int .u8 kd) /\ Below W'.heap.size W' w' from by
        have hch := hW.ch (inb := inb) HP.out rfl HIB2.out (fun b => W'.heap.size <= b) (fun b hb => by have := hW.hz; omega);rw [HN9.out] at hch;have h := qHR (HP.out.then hW.old) cb inb hch (by have := hW.hz; omega) k (by have := HN9.out; omega) (by have := HN9.out; omega) hI0;rw [HKD.out];unfold qED;rw [if_neg hki];exact h)
       have O5 := hid (show 0 = 0 from rfl);refine qAC (PP := ofC cb k kd v0) 7 rfl (by kernel_rfl) (by kernel_rfl) (by decide) (by decide) (qT0 cb k kd v0) (fun _ => undef) (by simp [qA2, gQ]) ?_ ?_
       ·intro i o vs W hi ho he hBW K hK;simp only [gT, qA2, gQ] at hK |-;have OWW := hid (O9.out.then hBW);have V0W := hid ((hBW.cell (p := ⟨ob, 0, none⟩) (World.block_lt_of_cell? w9 _ V0.out)).trans V0.out);obtain rfl | rfl | rfl | rfl | rfl | rfl | rfl := c7_ hi <;> simp only [gE] at ho <;> subst ho
        ·rw [if_pos (by rfl)];simp only [gQ] at hK;have HK := hid hK;clear hK he hi hBW;have ccV0W := V0W.out;gi_step;exact HK.out _ _ rfl bR
        iterate 2 ·rw [if_pos (by rfl)];simp only [gQ] at hK;have HK := hid hK;clear hK he hi hBW;gi_step;exact HK.out _ _ rfl bR
        ·have e1 : vs 1 = _ := he ⟨1, .data⟩ (by simp) rfl;rw [e1] at hK |-;have e2 : vs 2 = _ := he ⟨2, .data⟩ (by simp) rfl;rw [e2] at hK |-;rw [if_pos (by rfl)];simp only [gQ] at hK;have HK := hid hK;clear hK he hi hBW;have KW := KND.out W OWW.out;gi_step;refine ⟨trivial, ?_⟩;gi_at_call 85
         refine (CallsIn.inRound l (callsIn_wide.2 KW)).mono ?_;rintro en w9 ⟨rfl, h⟩;exact HK.out _ _ rfl h
        ·rw [if_pos (by rfl)];simp only [gQ] at hK;have HK := hid hK;clear hK he hi hBW;gi_step;exact HK.out _ _ rfl bR
        ·have e3 : vs 3 = _ := he ⟨3, .data⟩ (by simp) rfl;rw [e3] at hK |-;have e4 : vs 4 = _ := he ⟨4, .data⟩ (by simp) rfl;rw [e4] at hK |-;rw [if_pos (by rfl)];simp only [gQ] at hK;have HK := hid hK;clear hK he hi hBW;gi_step;exact HK.out _ _ rfl bR
        ·have e5 : vs 5 = _ := he ⟨5, .data⟩ (by simp) rfl;rw [e5] at hK |-;rw [if_pos (by rfl)];simp only [gQ] at hK;have HK := hid hK;clear hK he hi hBW;gi_step;exact HK.out _ _ ⟨W.heap.size, rfl, by simp [go_sem], by simp [go_sem]⟩ ((Below.refl _ W).alloc lR _)
       ·intro vs W5 hall hBW;have e0 : vs 0 = v0 := (hall 0 (by decide) : ofC cb k kd v0 0 (vs 0) W5);obtain ⟨hb7, e6, hx0, hx1⟩ : ofC cb k kd v0 6 (vs 6) W5 := hall 6 (by decide);simp only [gT, qA2, qA8, qA7, gP];rw [e0, e6];generalize vs 1 = r1, vs 2 = r2, vs 3 = r3, vs 4 = r4, vs 5 = r5;have V5 := hid ((hBW.cell (p := ⟨ob, 0, none⟩) (World.block_lt_of_cell? w9 _ V0.out)).trans V0.out);have OV5 := hid (Own.below OV.out hBW lR);have T5 := hid (T9.out.then hBW);have B5 := hid (B9.out.trans (hBW.mono B9.out.size));have O55 := hid (O9.out.then hBW);have hlen : (pre.map fun y => (qED L inb I0 y.1, (y.1 : Int))).length = pre.length := List.length_map _;obtain ⟨DL, hDL⟩ : ∃ DL : List (Int × Int), DL = pre.map fun y => (qED L inb I0 y.1, (y.1 : Int)) := ⟨_, rfl⟩;rw [<- hDL] at OV5 T5 hlen;have HDL := hid hDL;clear hDL hall hBW e0 e6 O9 T9 B9 V0 OV O5 KND g0;gi_wp2_with (gi_at_builtin; refine wpListIn_append_own _ rfl _ _ 43 rfl W4.heap.size 61 i0 (.agg #[.int .u8 0, .int .i64 0]) 2 16 Tryz.underlying43 hi hz0 hz1 hz2 rfl (by decide) _ _ _ rfl OV5.out ⟨hb7, 0, none⟩ 1 1 [.int .u8 kd, .int .i64 (k : Int)] rfl rfl ?c1 ?c2 ?c3 ?c4 ?c5 ?c6)
        case c1 =>
         intro j u hu
         match j, hu with
         | 0, hu => cases hu; exact hx0
         | 1, hu => cases hu; exact hx1
         | (j + 2), hu => cases hu
        case c2 => simp [Value.oneCell']
        case c3 => rw [hlen]; unfold maxLen; omega
        case c4 => rw [hlen]; omega
        case c5 => exact T5.out.hz.2
        case c6 =>
         intro v' w6 ho6 hg6 _;rw [<- hlen] at ho6;obtain ⟨A9, c9, rfl⟩ := qAF ho6;obtain ⟨⟨q1, q2⟩, q3, q4, q5, q6⟩ := OutAt.more (x := (kd, (k : Int))) (v' := .slice A9 (DL.length + 1) c9) T5.out.hz T5.out.fz V5.out OV5.out hg6 (Own.snoc ho6);have Q3 := hid q3;have Q4 := hid q4;have Q5 := hid q5;have O6 := hid (O55.out.past (q6.mono HZO.out));clear q3 q4 q5 q6 hlen;gi_wp2_with fail
         exact ⟨((KeepsOthers.of_grownBy (qA5 B5.out) (fun _ _ h => by cases h)).trans Q5.out).from _, (KX.of B5.out).trans Q4.out, O6.out, by rw [List.map_append, List.map_singleton, <- HY.out, <- HKD.out, <- HDL.out]; exact Q3.out⟩
     case done =>
      rintro D ys W hD hys ⟨hO, hT⟩ hK;have HST := hid (show qBY L I0 S = ys.map fun y => (qED L inb I0 y.1, (y.1 : Int)) by
       unfold qBY;rw [HBS.out, <- HN9.out, <- HINB.out, if_neg Bool.false_ne_true, <- hys, List.map_map];rfl)
      obtain ⟨DL, hDL⟩ : ∃ DL : List (Int × Int), DL = ys.map fun y => (qED L inb I0 y.1, (y.1 : Int)) := ⟨_, rfl⟩;rw [<- hDL] at HST hT;obtain ⟨v, hv, ho⟩ := hT.row;obtain ⟨A9, c9, rfl⟩ := qAF ho;have HO := hid hO;have OW := hid ho;have HV := hid hv;have HK := hid hK;have HD := hid hD;obtain ⟨dn, hdn⟩ : ∃ dn, dn = DL.length := ⟨_, rfl⟩;rw [<- hdn] at OW HV hv;clear hDL hO hT ho hK hD hys hdn F1 F2 F3 CH4 T4 O4;go_wp2_with fail
      refine ⟨by simp, .inl ⟨_, _, rfl, run_takeDeferred HK.out, ?_⟩⟩;have MP := belowK_b (n₀ := w.heap.size) (w := W4) (by have := HB4.out; omega) _ D _ (.deferred none) HD.out HK.out rfl rfl;exact ⟨.tuple #[.slice A9 dn c9, .int .i64 0], by simp [results, Tryz.results25, go_sem], _, by rw [HER.out, HBS.out]; rfl, by rw [HST.out]; exact (qU5 OW.out HK.out rfl _).more HB4.out, HO.out.old.trans (MP.mono lR)⟩
     case stop =>
      rintro D c pre W hD hpre h2 hK;exact h2.elim
