/- StOfAt, StVal -/
import Derived.Test.YtibeipmcggbbgaaGreatDoorStepsThereRowG37
import Derived.Test.YtibeipmcggbbgaaGreatDoorStepsThereRowG38
import Derived.Laws.MakeOwn
set_option linter.unusedSimpArgs false
set_option linter.unusedVariables false
namespace Go.Proofs.YtibeipmcggbbgaaGreatDoor
section
/- Where steps.Of stands: its boxes, and the row of who is of the state. -/




open Go.RowKit Go.Shelf
set_option linter.unusedVariables false

theorem run_make_rowN {P : Program} (t e : TypeId) (i : TypeInfo) (z : Value) (ht : P.underlying t = some (.slice e)) (hi : P.info? e = some i) (hz : i.zero = some z)
  (kl kc : IntKind) (n : Nat) (hbytes : i.bytes * n ≤ 281474976710656) (h63 : n ≤ 9223372036854775807) (w : World) :
  (Instr.makeSlice t (.int kl (n : Int)) (.int kc (n : Int))).run P w = .ok (.slice (some ⟨w.heap.size, 0, none⟩) n n) (w.alloc (.cells (madeCells z.cells (n * i.size)) e)) := by
 have hb : (i.bytes : Int) * (n : Int) ≤ 281474976710656 := by
  have h : ((i.bytes * n : Nat) : Int) ≤ 281474976710656 := by omega
  rwa [Int.natCast_mul] at h
 have hr := run_make (P := P) w t e i z ht hi hz kl kc n n (by omega) (by omega) hb (by omega)
 simp only [Int.toNat_natCast] at hr
 exact hr
theorem infoBool : (Tryz.prog.info? 4).map (fun i => (i.zero, i.size, i.bytes)) = some (some (.bool false), 1, 1) := by kernel_rfl
theorem make_bools (n : Nat) (hn : n ≤ 1000000) (w : World) : (Instr.makeSlice 104 (.int .i64 (n : Int)) (.int .i64 (n : Int))).run Tryz.prog w = .ok (.slice (some ⟨w.heap.size, 0, none⟩) n n) (w.alloc (.cells (madeCells #[.bool false] n) 4)) := by
 obtain ⟨i0, hi, hz0, hz1, hz2⟩ := info_parts infoBool
 have h := run_make_rowN (P := Tryz.prog) 104 4 i0 (.bool false) Tryz.underlying104 hi hz0 .i64 .i64 n (by rw [hz2]; omega) (by omega) w
 rw [hz1, Nat.mul_one] at h
 exact h
/-- a row of bools -/
def BRow (rb n : Nat) (f : Nat → Bool) (W : World) : Prop := ∀ i, i < n → W.cell? ⟨rb, i, none⟩ = some (.bool (f i)) ∧ W.frozen? ⟨rb, i, none⟩ = false
theorem BRow.then {rb n : Nat} {f : Nat → Bool} {W W' : World} (h : BRow rb n f W) (hb : Below W.heap.size W W') : BRow rb n f W' := fun i hi => by
 obtain ⟨h1, h2⟩ := h i hi
 have hl := World.block_lt_of_cell? W _ h1
 exact ⟨(hb.cell hl).trans h1, (hb.frozen hl).trans h2⟩
theorem BRow.past {rb n B : Nat} {f : Nat → Bool} {W W' : World} (h : BRow rb n f W) (hB : rb < B) (hb : Below B W W') : BRow rb n f W' := fun i hi =>
 ⟨(hb.cell (p := ⟨rb, i, none⟩) hB).trans (h i hi).1, (hb.frozen (p := ⟨rb, i, none⟩) hB).trans (h i hi).2⟩
theorem BRow.made (n : Nat) (W : World) (t : TypeId) : BRow W.heap.size n (fun _ => false) (W.alloc (.cells (madeCells #[.bool false] n) t)) := fun i hi =>
 ⟨(World.cell?_alloc_at _ _ _ _ rfl).trans (by simp [madeCells, hi, Nat.mod_one]), by simp [go_sem]⟩
theorem BRow.set {rb n : Nat} {f : Nat → Bool} {W : World} (h : BRow rb n f W) {k : Nat} (hk : k < n) (b : Bool) : BRow rb n (fun i => if i = k then b else f i) (W.setCell ⟨rb, k, none⟩ (.bool b)) := fun i hi => by
 refine ⟨?_, (World.frozen?_setCell _ _ _ _).trans (h i hi).2⟩
 show _ = some (Value.bool (if i = k then b else f i))
 by_cases e : i = k
 ·subst e; rw [if_pos rfl]; exact sc_same (h i hi).1
 ·rw [if_neg e]
  exact (sc_other (fun h2 => e (by simp only [Addr.mk.injEq] at h2; exact h2.2.1.symm))).trans (h i hi).1
theorem BRow.congr {rb n : Nat} {f f' : Nat → Bool} {W : World} (h : BRow rb n f W) (hf : ∀ i, i < n → f i = f' i) : BRow rb n f' W := fun i hi => by rw [← hf i hi]; exact h i hi
structure OfAt (w : World) (P cb rb gb hz n : Nat) (f : Nat → Bool) (W : World) : Prop where
 old : Below w.heap.size w W
 p2 : W.cell? ⟨w.heap.size, 0, none⟩ = some (.pointer (some ⟨P, 0, none⟩))
 c0 : W.cell? ⟨cb, 0, none⟩ = some (.pointer (some ⟨P, 0, none⟩))
 c1 : W.cell? ⟨cb, 1, none⟩ = some (.slice (some ⟨rb, 0, none⟩) n n)
 g0 : W.cell? ⟨gb, 0, none⟩ = some (.pointer (some ⟨cb, 0, none⟩))
 row : BRow rb n f W
 hz : w.heap.size < cb ∧ w.heap.size < rb ∧ w.heap.size < gb ∧ cb < hz ∧ rb < hz ∧ gb < hz ∧ hz ≤ W.heap.size
section
variable {w W W' : World} {P cb rb gb hz n : Nat} {f : Nat → Bool}
theorem OfAt.past (h : OfAt w P cb rb gb hz n f W) (hb : Below hz W W') : OfAt w P cb rb gb hz n f W' := by
 obtain ⟨z1, z2, z3, z4, z5, z6, z7⟩ := h.hz
 exact ⟨h.old.trans (hb.mono (by omega)), (hb.cell (p := ⟨w.heap.size, 0, none⟩) (by show w.heap.size < hz; omega)).trans h.p2, (hb.cell (p := ⟨cb, 0, none⟩) z4).trans h.c0, (hb.cell (p := ⟨cb, 1, none⟩) z4).trans h.c1, (hb.cell (p := ⟨gb, 0, none⟩) z6).trans h.g0, h.row.past z5 hb, z1, z2, z3, z4, z5, z6, Nat.le_trans z7 hb.size⟩
theorem OfAt.then (h : OfAt w P cb rb gb hz n f W) (hb : Below W.heap.size W W') : OfAt w P cb rb gb hz n f W' := h.past (hb.mono h.hz.2.2.2.2.2.2)
theorem OfAt.set (h : OfAt w P cb rb gb hz n f W) {k : Nat} (hk : k < n) : OfAt w P cb rb gb hz n (fun i => if i = k then true else f i) (W.setCell ⟨rb, k, none⟩ (.bool true)) := by
 obtain ⟨z1, z2, z3, z4, z5, z6, z7⟩ := h.hz
 have h0 := (h.row 0 (by omega)).1
 have n1 : cb ≠ rb := fun e => by have := h.c0; rw [e, h0] at this; cases this
 have n2 : gb ≠ rb := fun e => by have := h.g0; rw [e, h0] at this; cases this
 have ne : ∀ b j, b ≠ rb → (⟨rb, k, none⟩ : Addr) ≠ ⟨b, j, none⟩ := fun b j hb e => by simp only [Addr.mk.injEq] at e; exact hb e.1.symm
 exact ⟨h.old.setCell (p := ⟨rb, k, none⟩) (by show w.heap.size ≤ rb; omega) _, (sc_other (ne _ _ (by omega))).trans h.p2, (sc_other (ne _ _ n1)).trans h.c0, (sc_other (ne _ _ n1)).trans h.c1, (sc_other (ne _ _ n2)).trans h.g0, h.row.set hk true, z1, z2, z3, z4, z5, z6, by simpa [World.setCell] using z7⟩
theorem OfAt.congr {f' : Nat → Bool} (h : OfAt w P cb rb gb hz n f W) (hf : ∀ i, i < n → f i = f' i) : OfAt w P cb rb gb hz n f' W := ⟨h.old, h.p2, h.c0, h.c1, h.g0, h.row.congr hf, h.hz⟩
theorem OfAt.ch {I0 : Nat} {L : List Pr} {I : Int} (h : OfAt w P cb rb gb hz n f W) (hp : Pool P I L w) (hI : I = (I0 : Int)) {inb : List Bool} (hi : ∀ i, i < n → f i = inb.getD i false) (X : Nat → Prop) (hX : ∀ b, X b → hz ≤ b) : ChAt cb P I0 n inb X W := by
 obtain ⟨z1, z2, z3, z4, z5, z6, z7⟩ := h.hz
 have hP := (hp.then (h.old)).at_
 refine ⟨h.c0, ⟨some ⟨rb, 0, none⟩, n, h.c1, fun j hj => ⟨rb, 0, rfl, fun hx => by have := hX _ hx; omega, ?_⟩⟩, ?_, fun hx => by have := hX _ hx; omega, fun hx => by have := hX _ hx; have := hp.at_.lt; omega⟩
 ·rw [Nat.zero_add, ← hi j hj]; exact (h.row j hj).1
 ·rw [← hI]; exact hP.c1
end
/-- what an own row's growth keeps -/
theorem KX.grown {X : Nat → Prop} {W W' : World} {row : Option Nat} (h : W.grownBy W' row) (hr : ∀ j, row = some j → X j) : KX X W W' := ⟨fun a v ha hv => by
 have hl := World.block_lt_of_cell? W _ hv
 have hb := h.block a.block hl (fun e => ha (hr _ e.symm))
 exact ⟨(World.cell?_of_block hb).trans hv, World.frozen?_of_block hb⟩, h.size⟩
/-- the steps that are put down so far -/
structure OutAt (base ob : Nat) (D : List (Int × Int)) (W : World) : Prop where
 row : ∃ v, W.cell? ⟨ob, 0, none⟩ = some v ∧ Own encSt 2 base 61 v D W
 fz : W.frozen? ⟨ob, 0, none⟩ = false
 hz : ob < base ∧ base ≤ W.heap.size
theorem OutAt.then {base ob : Nat} {D : List (Int × Int)} {W W' : World} (h : OutAt base ob D W) (hb : Below W.heap.size W W') : OutAt base ob D W' := by
 obtain ⟨v, h1, h2⟩ := h.row
 have hl := World.block_lt_of_cell? W _ h1
 exact ⟨⟨v, (hb.cell hl).trans h1, h2.below hb (Nat.le_refl _)⟩, (hb.frozen hl).trans h.fz, h.hz.1, Nat.le_trans h.hz.2 hb.size⟩
/-- a step more -/
theorem OutAt.more {base ob : Nat} {D : List (Int × Int)} {W W1 : World} {x : Int × Int} {v v' : Value} (hz : ob < base ∧ base ≤ W.heap.size) (hf : W.frozen? ⟨ob, 0, none⟩ = false) (hc : W.cell? ⟨ob, 0, none⟩ = some v) (ho : Own encSt 2 base 61 v D W) (hg : W.grownBy W1 v.ownBlock) (ho' : Own encSt 2 base 61 v' (D ++ [x]) W1) :
  (W1.cell? ⟨ob, 0, none⟩ = some v ∧ W1.frozen? ⟨ob, 0, none⟩ = false) ∧ OutAt base ob (D ++ [x]) (W1.setCell ⟨ob, 0, none⟩ v') ∧ KX (fun b => b = ob ∨ base ≤ b) W (W1.setCell ⟨ob, 0, none⟩ v') ∧ KeepsOthers W (W1.setCell ⟨ob, 0, none⟩ v') ∧ Below ob W (W1.setCell ⟨ob, 0, none⟩ v') := by
 have hr : ∀ (u : Value) (E : List (Int × Int)) (U : World), Own encSt 2 base 61 u E U → ∀ j, u.ownBlock = some j → base ≤ j := fun u E U h j e => (World.ownsRow.lt h j e).1
 have hl := World.block_lt_of_cell? W _ hc
 have hb := hg.block ob hl (fun e => by have := hr _ _ _ ho _ e.symm; omega)
 have c1 : W1.cell? ⟨ob, 0, none⟩ = some v := (World.cell?_of_block hb).trans hc
 have f1 : W1.frozen? ⟨ob, 0, none⟩ = false := (World.frozen?_of_block hb).trans hf
 refine ⟨⟨c1, f1⟩, ⟨⟨v', sc_same c1, ?_⟩, (World.frozen?_setCell _ _ _ _).trans f1, hz.1, ?_⟩, ?_, ?_, ?_⟩
 ·exact World.ownsRow.kept ho' (grownBy_setCell' W1 ob v') (.inr (fun e => by have := hr _ _ _ ho' _ e; omega))
 ·have := hg.size; simp [World.setCell]; omega
 ·exact (KX.grown hg fun j e => .inr (hr _ _ _ ho j e)).trans (KX.set _ (.inl rfl) _ _)
 ·refine (KeepsOthers.of_grownBy hg fun j o ej hj => ?_).trans (KeepsOthers.setCell _ _ _)
  rcases ho.2 with ⟨rfl, _⟩ | ⟨g, cap, cur, rfl, _, hgb, _⟩
  ·simp [Value.ownBlock] at ej
  ·obtain rfl : g = j := by simpa [Value.ownBlock] using ej
   rw [hgb] at hj; cases hj; rfl
 ·exact ((Below.refl ob W).grown hg (by omega) fun j e => by have := hr _ _ _ ho j e; omega).setCell (p := ⟨ob, 0, none⟩) (Nat.le_refl _) _
end
section
/- Plain law: the steps to a state, told by the packages' numbers. -/



open Go.RowKit Go.Shelf
set_option linter.unusedVariables false

def badS (N : Nat) (S : List Int) : Bool := S.any fun z => decide (z < 0) || decide ((N : Int) ≤ z)
def inbOf (N : Nat) (S : List Int) : List Bool := (List.range N).map (St.inS S)
def kindV (L : List Pr) (inb : List Bool) (I0 k : Nat) : Int := if k < I0 then goesV L inb I0 L.length k else comesV L inb I0 k
def stepsV (L : List Pr) (I0 : Nat) (S : List Int) : List (Int × Int) := if badS L.length S then [] else (chgl (inbOf L.length S) I0 0 L.length).map fun k => (kindV L (inbOf L.length S) I0 k, (k : Int))
/-- one obsoletes another one -/
def obN (L : List Pr) (i j : Nat) : Bool := obsP L (i : Int) (j : Int)
section
variable {N I0 : Nat} {S : List Int} {L : List Pr}
theorem inb_at {k : Nat} (h : k < N) : (inbOf N S).getD k false = St.inS S k := by
 unfold inbOf
 rw [List.getD_eq_getElem?_getD, List.getElem?_map, List.getElem?_range h]
 rfl
theorem chgd_chg {k : Nat} (h : k < N) : chgd (inbOf N S) I0 k = St.chg I0 S k := by
 unfold chgd St.chg
 rw [inb_at h]
 simp
theorem chgl_chgs {a b : Nat} (hb : b ≤ N) : chgl (inbOf N S) I0 a b = St.chgs I0 S a b := by
 unfold chgl St.chgs
 refine List.filter_congr fun x hx => chgd_chg ?_
 have := List.mem_range'_1.1 hx
 omega
theorem goesV_K (hI : I0 ≤ L.length) (k : Nat) : goesV L (inbOf L.length S) I0 L.length k = St.goesK I0 (nmP L) (obN L) S L.length k := by
 unfold goesV St.goesK
 rw [chgl_chgs (Nat.le_refl _)]
 rfl
theorem comesV_K (hI : I0 ≤ L.length) (k : Nat) : comesV L (inbOf L.length S) I0 k = St.comesK I0 (nmP L) (obN L) (cmpI2 L) S k := by
 unfold comesV St.comesK comesOf
 rw [chgl_chgs hI]
 rfl
theorem kindV_K (hI : I0 ≤ L.length) (k : Nat) : kindV L (inbOf L.length S) I0 k = St.kindK I0 (nmP L) (obN L) (cmpI2 L) S L.length k := by
 unfold kindV St.kindK
 rw [goesV_K hI, comesV_K hI]
/-- the Kind of a number's step -/
abbrev knd (L : List Pr) (I0 : Nat) (S : List Int) (k : Nat) : Int := St.kindK I0 (nmP L) (obN L) (cmpI2 L) S L.length k
theorem stepsV_eq (hI : I0 ≤ L.length) (hb : badS L.length S = false) : stepsV L I0 S = (St.chgs I0 S 0 L.length).map fun k => (knd L I0 S k, (k : Int)) := by
 unfold stepsV
 rw [hb, chgl_chgs (Nat.le_refl _)]
 exact List.map_congr_left fun k _ => by rw [kindV_K hI]
theorem stepsV_bad (hb : badS L.length S = true) : stepsV L I0 S = [] := by unfold stepsV; rw [hb]; rfl
theorem badS_no : badS N S = false ↔ ∀ z ∈ S, 0 ≤ z ∧ z < (N : Int) := by
 unfold badS
 rw [List.any_eq_false]
 refine ⟨fun h z hz => ?_, fun h z hz => ?_⟩
 ·have := h z hz
  simp only [Bool.or_eq_true, decide_eq_true_eq, not_or, Int.not_lt, Int.not_le] at this
  omega
 ·have := h z hz
  simp only [Bool.or_eq_true, decide_eq_true_eq, not_or, Int.not_lt, Int.not_le]
  omega
theorem chgs_split {a i b : Nat} (h1 : a ≤ i) (h2 : i ≤ b) : St.chgs I0 S a b = St.chgs I0 S a i ++ St.chgs I0 S i b := by
 unfold St.chgs
 rw [← List.filter_append]
 congr 1
 have h := @List.range'_append_1 a (i - a) (b - i)
 rw [show a + (i - a) = i by omega, show i - a + (b - i) = b - a by omega] at h
 exact h.symm
theorem chgs_head {i b : Nat} (h : i < b) : St.chgs I0 S i b = (if St.chg I0 S i then [i] else []) ++ St.chgs I0 S (i + 1) b := by
 unfold St.chgs
 rw [show b - i = (b - (i + 1)) + 1 by omega, List.range'_succ, List.filter_cons]
 cases St.chg I0 S i <;> rfl
theorem chgs_self (i : Nat) : St.chgs I0 S i i = [] := by unfold St.chgs; rw [Nat.sub_self]; rfl
theorem chgs_one {n : Nat} : St.chgs I0 S 0 (n + 1) = St.chgs I0 S 0 n ++ (if St.chg I0 S n then [n] else []) := by
 rw [chgs_split (Nat.zero_le n) (Nat.le_succ n), chgs_head (Nat.lt_succ_self n), chgs_self, List.append_nil]
theorem chgs_le (b : Nat) : (St.chgs I0 S 0 b).length ≤ b := by
 unfold St.chgs
 have := List.length_filter_le (St.chg I0 S) (List.range' 0 (b - 0))
 rw [List.length_range'] at this
 exact this
/-- of a step, the one of number n, in the row of numbers -/
theorem steps_here (hI : I0 ≤ L.length) (hb : badS L.length S = false) {n : Nat} (hn : n < L.length) (hc : St.chg I0 S n = true) : (St.chgs I0 S 0 n).length < (stepsV L I0 S).length ∧ (stepsV L I0 S)[(St.chgs I0 S 0 n).length]? = some (knd L I0 S n, (n : Int)) := by
 have e : (stepsV L I0 S)[(St.chgs I0 S 0 n).length]? = some (knd L I0 S n, (n : Int)) := by
  rw [stepsV_eq hI hb, chgs_split (Nat.zero_le n) (Nat.le_of_lt hn), chgs_head hn, hc]
  simp
 refine ⟨?_, e⟩
 rcases Nat.lt_or_ge (St.chgs I0 S 0 n).length (stepsV L I0 S).length with h | h
 ·exact h
 ·rw [List.getElem?_eq_none h] at e; cases e
theorem stepsV_len (hI : I0 ≤ L.length) (hb : badS L.length S = false) : (stepsV L I0 S).length = (St.chgs I0 S 0 L.length).length := by rw [stepsV_eq hI hb, List.length_map]
theorem comesKB_eq (k : Int) : comesKB k = St.comesB k := by
 unfold comesKB St.comesB
 rw [Bool.eq_iff_iff]; simp
theorem goesKB_eq (k : Int) : goesKB k = St.goesB k := by
 unfold goesKB St.goesB
 rw [Bool.eq_iff_iff]; simp
theorem knd_comes (n : Nat) : comesKB (knd L I0 S n) = !decide (n < I0) := by rw [comesKB_eq]; exact St.kind_comes n
theorem knd_goes (n : Nat) : goesKB (knd L I0 S n) = decide (n < I0) := by rw [goesKB_eq]; exact St.kind_goes n
/-- what is wrong with steps: 5 a number that is none, 4 a Kind, or a number twice -/
def formOk (I0 : Nat) : List Int → List (Int × Int) → Bool
 | _, [] => true
 | seen, x :: l => !seen.contains x.2 && (if x.2 < (I0 : Int) then goesKB x.1 else comesKB x.1) && formOk I0 (seen ++ [x.2]) l
def applyE (N I0 : Nat) (l : List (Int × Int)) : Int := if badS N (l.map fun x => x.2) then 5 else if formOk I0 [] l then 0 else 4
def turnV (N I0 : Nat) (T : List Int) : List Int := ((List.range N).filter fun n : Nat => T.contains (n : Int) != decide (n < I0)).map fun n : Nat => (n : Int)
def applyV (N I0 : Nat) (l : List (Int × Int)) : List Int := if applyE N I0 l = 0 then turnV N I0 (l.map fun x => x.2) else []
theorem formOk_steps : ∀ (l : List Nat) (seen : List Int), l.Nodup → (∀ n ∈ l, (n : Int) ∉ seen) → formOk I0 seen (l.map fun k => (knd L I0 S k, (k : Int))) = true
 | [], _, _, _ => rfl
 | n :: l, seen, hd, hs => by
  rw [List.nodup_cons] at hd
  show (!seen.contains (n : Int) && (if (n : Int) < (I0 : Int) then goesKB (knd L I0 S n) else comesKB (knd L I0 S n)) && formOk I0 (seen ++ [(n : Int)]) (l.map fun k => (knd L I0 S k, (k : Int)))) = true
  rw [formOk_steps l _ hd.2 (fun m hm => by
   rw [List.mem_append, not_or]
   exact ⟨hs m (List.mem_cons_of_mem _ hm), fun e => by rw [Int.ofNat_inj.1 (List.mem_singleton.1 e)] at hm; exact hd.1 hm⟩)]
  have h1 : seen.contains (n : Int) = false := by
   rw [Bool.eq_false_iff]
   exact fun h => hs n (List.mem_cons_self) (List.contains_iff_mem.1 h)
  rw [h1, knd_comes, knd_goes]
  by_cases h : n < I0
  ·have h2 : (n : Int) < (I0 : Int) := by omega
   simp [h, h2]
  ·have h2 : ¬ (n : Int) < (I0 : Int) := by omega
   simp [h, h2]
theorem chgs_nodup (a b : Nat) : (St.chgs I0 S a b).Nodup := List.Pairwise.filter _ List.nodup_range'
theorem applyE_steps (hI : I0 ≤ L.length) (hb : badS L.length S = false) : applyE L.length I0 (stepsV L I0 S) = 0 := by
 rw [stepsV_eq hI hb]
 unfold applyE
 have h1 : badS L.length (((St.chgs I0 S 0 L.length).map fun k => (knd L I0 S k, (k : Int))).map fun x => x.2) = false := badS_no.2 fun z hz => by
  rw [List.map_map] at hz
  obtain ⟨n, hn, rfl⟩ := List.mem_map.1 hz
  have := (St.mem_chgs.1 hn).1
  show 0 ≤ (n : Int) ∧ (n : Int) < (L.length : Int)
  omega
 rw [h1, formOk_steps _ _ (chgs_nodup _ _) (fun n _ h => by cases h)]
 rfl
theorem turnV_mem {T : List Int} {n : Nat} (hn : n < N) : (turnV N I0 T).contains (n : Int) = (T.contains (n : Int) != decide (n < I0)) := by
 unfold turnV
 rw [Bool.eq_iff_iff, List.contains_iff_mem, List.mem_map]
 constructor
 ·rintro ⟨m, hm, e⟩
  rw [← Int.ofNat_inj.1 e]
  exact (List.mem_filter.1 hm).2
 ·intro h
  exact ⟨n, List.mem_filter.2 ⟨List.mem_range.2 hn, h⟩, rfl⟩
theorem contains_inS (n : Nat) : S.contains (n : Int) = St.inS S n := by
 unfold St.inS
 rw [Bool.eq_iff_iff, List.contains_iff_mem, List.any_eq_true]
 constructor
 ·intro h; exact ⟨_, h, by simp⟩
 ·rintro ⟨z, hz, e⟩; rw [← (by simpa using e : z = (n : Int))]; exact hz
theorem steps_has (hI : I0 ≤ L.length) (hb : badS L.length S = false) {n : Nat} (hn : n < L.length) : ((stepsV L I0 S).map fun x => x.2).contains (n : Int) = St.chg I0 S n := by
 rw [stepsV_eq hI hb, List.map_map, Bool.eq_iff_iff, List.contains_iff_mem, List.mem_map]
 constructor
 ·rintro ⟨m, hm, e⟩
  have e2 : (m : Int) = (n : Int) := e
  rw [← Int.ofNat_inj.1 e2]
  exact (St.mem_chgs.1 hm).2
 ·intro h
  exact ⟨n, St.mem_chgs.2 ⟨⟨Nat.zero_le _, hn⟩, h⟩, rfl⟩
/-- steps applied come to the state -/
theorem apply_has (hI : I0 ≤ L.length) (hb : badS L.length S = false) {n : Nat} (hn : n < L.length) : (applyV L.length I0 (stepsV L I0 S)).contains (n : Int) = S.contains (n : Int) := by
 unfold applyV
 rw [if_pos (applyE_steps hI hb), turnV_mem hn, steps_has hI hb hn, contains_inS]
 unfold St.chg
 cases St.inS S n <;> cases decide (n < I0) <;> rfl
/-- from what is installed to that there are none -/
theorem none_now (hI : I0 ≤ L.length) : stepsV L I0 ((List.range I0).map fun n : Nat => (n : Int)) = [] := by
 have hb : badS L.length ((List.range I0).map fun n : Nat => (n : Int)) = false := badS_no.2 fun z hz => by
  obtain ⟨n, hn, rfl⟩ := List.mem_map.1 hz
  have := List.mem_range.1 hn
  omega
 rw [stepsV_eq hI hb, St.none_of, List.map_nil]
 intro n
 rw [← contains_inS, Bool.eq_iff_iff, List.contains_iff_mem, List.mem_map, decide_eq_true_eq]
 constructor
 ·rintro ⟨m, hm, e⟩; rw [← Int.ofNat_inj.1 e]; exact List.mem_range.1 hm
 ·intro h; exact ⟨n, List.mem_range.2 h, rfl⟩
end
end
end Go.Proofs.YtibeipmcggbbgaaGreatDoor
