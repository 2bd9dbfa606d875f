/- StVal, StAwL, StNmL, StOfAt -/
import Derived.Test.YteobmfpbgnmffaaGreatDoorStepsNamesRowG39
import Derived.Test.YteobmfpbgnmffaaGreatDoorStepsNamesRowG40
import Derived.Laws.MakeOwn
set_option linter.unusedSimpArgs false
set_option linter.unusedVariables false
namespace Go.Proofs.YteobmfpbgnmffaaGreatDoor
section
/- Plain law: the steps to a state, told by the packages' numbers. -/



open Go.RowKit Go.Shelf
set_option linter.unusedVariables false

def badS (N : Nat) (S : List Int) : Bool := S.any fun z => decide (z < 0) || decide ((N : Int) ≤ z)
def inbOf (N : Nat) (S : List Int) : List Bool := (List.range N).map (St.inS S)
def kindV (L : List Pr) (inb : List Bool) (I0 k : Nat) : Int := if k < I0 then goesV L inb I0 L.length k else comesV L inb I0 k
def stepsV (L : List Pr) (I0 : Nat) (S : List Int) : List (Int × Int) := if badS L.length S then [] else (chgl (inbOf L.length S) I0 0 L.length).map fun k => (kindV L (inbOf L.length S) I0 k, (k : Int))
section
variable {N I0 : Nat} {S : List Int} {L : List Pr}
theorem inb_at {k : Nat} (h : k < N) : (inbOf N S).getD k false = St.inS S k := by
  unfold inbOf
  rw [List.getD_eq_getElem?_getD, List.getElem?_map, List.getElem?_range h]
  rfl
theorem stepsV_bad (hb : badS L.length S = true) : stepsV L I0 S = [] := by unfold stepsV; rw [hb]; rfl
theorem badS_no : badS N S = false ↔ ∀ z ∈ S, 0 ≤ z ∧ z < (N : Int) := by
  unfold badS
  rw [List.any_eq_false]
  refine ⟨fun h z hz => ?_, fun h z hz => ?_⟩
  · have := h z hz
    simp only [Bool.or_eq_true, decide_eq_true_eq, not_or, Int.not_lt, Int.not_le] at this
    omega
  · have := h z hz
    simp only [Bool.or_eq_true, decide_eq_true_eq, not_or, Int.not_lt, Int.not_le]
    omega
/-- what is wrong with steps: 5 a number that is none, 4 a Kind, or a number twice -/
def formOk (I0 : Nat) : List Int → List (Int × Int) → Bool
  | _, [] => true
  | seen, x :: l => !seen.contains x.2 && (if x.2 < (I0 : Int) then goesKB x.1 else comesKB x.1) && formOk I0 (seen ++ [x.2]) l
def applyE (N I0 : Nat) (l : List (Int × Int)) : Int := if badS N (l.map fun x => x.2) then 5 else if formOk I0 [] l then 0 else 4
def turnV (N I0 : Nat) (T : List Int) : List Int := ((List.range N).filter fun n : Nat => T.contains (n : Int) != decide (n < I0)).map fun n : Nat => (n : Int)
def applyV (N I0 : Nat) (l : List (Int × Int)) : List Int := if applyE N I0 l = 0 then turnV N I0 (l.map fun x => x.2) else []
end
end
section
/- The examples of the steps' statements, in plain terms. -/


open Go.RowKit Go.Shelf
set_option linter.unusedVariables false

def mkPr (p : Pk) : Pr := ⟨p, 0, 0⟩
section
variable {l : List Pk} {L : List Pr}
theorem alike_get (h : AllAlike l L) (i : Nat) : (i < l.length ∧ ∃ x y, (l.map mkPr)[i]? = some x ∧ L[i]? = some y ∧ Alike x.pk y.pk) ∨ ((l.map mkPr)[i]? = none ∧ L[i]? = none) := by
  rcases Nat.lt_or_ge i l.length with hi | hi
  · have h2 : i < L.length := by rw [h.1]; exact hi
    exact .inl ⟨hi, mkPr l[i], L[i], by simp [hi], List.getElem?_eq_getElem h2, h.2 i hi h2⟩
  · exact .inr ⟨List.getElem?_eq_none (by simpa using hi), List.getElem?_eq_none (by rw [h.1]; exact hi)⟩
theorem alike_nm (h : AllAlike l L) : nmP L = nmP (l.map mkPr) := funext fun i => funext fun j => by
  unfold nmP
  rcases alike_get h i with ⟨_, x, y, h1, h2, h3⟩ | ⟨h1, h2⟩ <;> rcases alike_get h j with ⟨_, x', y', k1, k2, k3⟩ | ⟨k1, k2⟩ <;> rw [h1, h2, k1, k2]
  show decide (y.pk.name = y'.pk.name) = decide (x.pk.name = x'.pk.name)
  rw [h3.name, k3.name]
theorem alike_cmp (h : AllAlike l L) : cmpI2 L = cmpI2 (l.map mkPr) := funext fun i => funext fun j => by
  unfold cmpI2
  rcases alike_get h i with ⟨_, x, y, h1, h2, h3⟩ | ⟨h1, h2⟩ <;> rcases alike_get h j with ⟨_, x', y', k1, k2, k3⟩ | ⟨k1, k2⟩ <;> rw [h1, h2, k1, k2]
  show ecmp y.pk.evr y'.pk.evr = ecmp x.pk.evr x'.pk.evr
  rw [h3.evr, k3.evr]
theorem alike_ownD {p q : Pk} (h : Alike p q) : q.ownD = p.ownD := by unfold Pk.ownD; rw [h.name, h.evr]
theorem alike_ob (h : AllAlike l L) : obsP L = obsP (l.map mkPr) := funext fun i => funext fun j => by
  unfold obsP
  rw [show (l.map mkPr).length = L.length by rw [List.length_map, h.1]]
  congr 1
  congr 1
  congr 1
  rcases alike_get h i.toNat with ⟨_, x, y, h1, h2, h3⟩ | ⟨h1, h2⟩ <;> rcases alike_get h j.toNat with ⟨_, x', y', k1, k2, k3⟩ | ⟨k1, k2⟩ <;> rw [h1, h2, k1, k2]
  show (y.pk.obs.any fun d => meetsN y'.pk.ownD d) = (x.pk.obs.any fun d => meetsN x'.pk.ownD d)
  rw [h3.obs, alike_ownD k3]
theorem alike_steps (h : AllAlike l L) (I0 : Nat) (S : List Int) : stepsV L I0 S = stepsV (l.map mkPr) I0 S := by
  unfold stepsV kindV goesV comesV comesOf
  rw [alike_nm h, alike_cmp h, alike_ob h, show L.length = (l.map mkPr).length by rw [List.length_map, h.1]]
end
def pk30 (n v : ByteArray) : Pk := { name := n, epoch := 0, ver := v, rel := ⟨#[49]⟩, arch := 1, vendor := ⟨#[]⟩, provA := none, provC := 0, prov := [], reqA := none, reqC := 0, req := [], conA := none, conC := 0, con := [], obsA := none, obsC := 0, obs := [], rcmA := none, rcmC := 0, rcm := [], supA := none, supC := 0, sup := [], sugA := none, sugC := 0, sug := [], enhA := none, enhC := 0, enh := [], filesA := none, filesC := 0, files := [] }
/-- b 1, that obsoletes c -/
def pkB30 (A : Option Addr) (c : Nat) : Pk := { pk30 ⟨#[98]⟩ ⟨#[49]⟩ with obsA := A, obsC := c, obs := [⟨[99], 0, ⟨0, [], []⟩⟩] }
def aw30 (A : Option Addr) (c : Nat) : List Pk := [pk30 ⟨#[97]⟩ ⟨#[49]⟩, pk30 ⟨#[97]⟩ ⟨#[50]⟩, pkB30 A c]
theorem aw30_of {A : Option Addr} {c : Nat} {L : List Pr} (h : AllAlike (aw30 A c) L) : AllAlike (aw30 none 0) L := by
  refine ⟨h.1, fun i h1 h2 => ?_⟩
  have h3 := h.2 i h1 h2
  have h4 : i < 3 := h1
  obtain rfl | rfl | rfl : i = 0 ∨ i = 1 ∨ i = 2 := by omega
  · exact h3
  · exact h3
  · exact ⟨h3.name, h3.epoch, h3.ver, h3.rel, h3.arch, h3.vendor, h3.prov, h3.obs, h3.files, h3.req, h3.con, h3.rcm, h3.sup, h3.sug, h3.enh⟩
theorem aw30_l : stepsV ((aw30 none 0).map mkPr) 1 [1] = [(7, 0), (2, 1)] := by decide +kernel
theorem aw30_m : stepsV ((aw30 none 0).map mkPr) 1 [2] = [(6, 0), (1, 2)] := by decide +kernel
theorem aw30_s : applyE 3 1 [(7, 0), (2, 1)] = 0 ∧ applyV 3 1 [(7, 0), (2, 1)] = [1] := ⟨by decide +kernel, by decide +kernel⟩
theorem aw30_may (A : Option Addr) (c : Nat) : ∀ x ∈ aw30 A c, mayP x = true := by
  intro x hx
  simp only [aw30, List.mem_cons, List.not_mem_nil, or_false] at hx
  rcases hx with rfl | rfl | rfl
  · decide +kernel
  · decide +kernel
  · rw [show mayP (pkB30 A c) = mayP (pkB30 none 0) from Alike.may (p := pkB30 none 0) (q := pkB30 A c) ⟨rfl, rfl, rfl, rfl, rfl, rfl, rfl, rfl, rfl, rfl, rfl, rfl, rfl, rfl, rfl⟩]
    decide +kernel
theorem aw30_err (A : Option Addr) (c : Nat) (RA : Option Addr) (rc : Nat) : errOf [⟨0, RA, rc, [pk30 ⟨#[97]⟩ ⟨#[50]⟩, pkB30 A c]⟩] [pk30 ⟨#[97]⟩ ⟨#[49]⟩] = 0 := by
  have h := aw30_may A c
  have h0 := h _ (by simp [aw30] : pk30 ⟨#[97]⟩ ⟨#[49]⟩ ∈ aw30 A c)
  have h1 := h _ (by simp [aw30] : pk30 ⟨#[97]⟩ ⟨#[50]⟩ ∈ aw30 A c)
  have h2 := h _ (by simp [aw30] : pkB30 A c ∈ aw30 A c)
  unfold errOf
  rw [if_neg (by simp [pksOf])]
  simp [rpOk, h0, h1, h2]
theorem pk30_deep (n v : ByteArray) : (pk30 n v).deepOk ∧ (pk30 n v).few := by
  refine ⟨fun x hx t ht => ?_, ?_⟩
  · simp only [LS, pk30, List.mem_cons, List.not_mem_nil, or_false] at hx
    rcases hx with rfl | rfl | rfl | rfl | rfl | rfl <;> cases ht
  · exact ⟨by simp [pk30], by simp [pk30], by simp [pk30], by simp [pk30, partsL, treeL], by simp [pk30, partsL, treeL], by simp [pk30, partsL, treeL], by simp [pk30, partsL, treeL], by simp [pk30, partsL, treeL], by simp [pk30, partsL, treeL]⟩
theorem pkB30_deep (A : Option Addr) (c : Nat) : (pkB30 A c).deepOk ∧ (pkB30 A c).few := by
  refine ⟨fun x hx t ht => ?_, ?_⟩
  · simp only [LS, pkB30, pk30, List.mem_cons, List.not_mem_nil, or_false] at hx
    rcases hx with rfl | rfl | rfl | rfl | rfl | rfl <;> cases ht
  · exact ⟨by simp [pkB30, pk30], by simp [pkB30, pk30], by simp [pkB30, pk30], by simp [pkB30, pk30, partsL, treeL], by simp [pkB30, pk30, partsL, treeL], by simp [pkB30, pk30, partsL, treeL], by simp [pkB30, pk30, partsL, treeL], by simp [pkB30, pk30, partsL, treeL], by simp [pkB30, pk30, partsL, treeL]⟩
end
section
/- StepsNames in plain terms: its packages, its states, and what is refused. -/


open Go.RowKit Go.Shelf
set_option linter.unusedVariables false

/-- e 1, that obsoletes d -/
def pkE30 (A : Option Addr) (c : Nat) : Pk := { pk30 ⟨#[101]⟩ ⟨#[49]⟩ with obsA := A, obsC := c, obs := [⟨[100], 0, ⟨0, [], []⟩⟩] }
def nmIns : List Pk := [pk30 ⟨#[97]⟩ ⟨#[49]⟩, pk30 ⟨#[97]⟩ ⟨#[50]⟩, pk30 ⟨#[98]⟩ ⟨#[49]⟩, pk30 ⟨#[99]⟩ ⟨#[49]⟩, pk30 ⟨#[100]⟩ ⟨#[49]⟩]
def nmRep (A : Option Addr) (c : Nat) : List Pk := [pk30 ⟨#[97]⟩ ⟨#[50]⟩, pk30 ⟨#[97]⟩ ⟨#[49]⟩, pk30 ⟨#[97]⟩ ⟨#[51]⟩, pkE30 A c, pk30 ⟨#[99]⟩ ⟨#[49]⟩, pk30 ⟨#[102]⟩ ⟨#[49]⟩]
def nm30 (A : Option Addr) (c : Nat) : List Pk := nmIns ++ nmRep A c
/-- the states, and the steps to each -/
def nmStates : List (List Int × List (Int × Int)) := [([0, 1, 2, 3, 4], []), ([1, 2, 3, 4], [(6, 0)]), ([5, 3, 2, 4, 3], [(7, 0), (7, 1), (4, 5)]), ([6, 2, 3, 4], [(7, 0), (7, 1), (3, 6)]), ([1, 6, 2, 3, 4], [(7, 0), (4, 6)]), ([7, 2, 3, 8], [(7, 0), (7, 1), (8, 4), (2, 7), (5, 8)]), ([0, 1, 2, 3, 4, 8, 10], [(1, 8), (1, 10)]), ([0, 1, 2, 9, 4], [(7, 3), (4, 9)])]
/-- steps that are refused -/
def nmBad : List (List (Int × Int)) := [[(0, 0)], [(9, 0)], [(1, 0)], [(6, 5)], [(6, 0), (7, 0)]]
theorem nm_steps : ∀ x ∈ nmStates, stepsV ((nm30 none 0).map mkPr) 5 x.1 = x.2 ∧ badS 11 x.1 = false := by decide +kernel
theorem nm_bad : ∀ x ∈ nmBad, applyE 11 5 x = 4 := by decide +kernel
theorem nm_more : badS 11 [0, 11] = true ∧ badS 11 [-1] = true ∧ applyE 11 5 [(0, 0), (1, 11)] = 5 := ⟨by decide +kernel, by decide +kernel, by decide +kernel⟩
theorem nm30_of {A : Option Addr} {c : Nat} {L : List Pr} (h : AllAlike (nm30 A c) L) : AllAlike (nm30 none 0) L := by
  refine ⟨h.1, fun i h1 h2 => ?_⟩
  have h3 := h.2 i h1 h2
  have h4 : i < 11 := h1
  obtain rfl | rfl | rfl | rfl | rfl | rfl | rfl | rfl | rfl | rfl | rfl : i = 0 ∨ i = 1 ∨ i = 2 ∨ i = 3 ∨ i = 4 ∨ i = 5 ∨ i = 6 ∨ i = 7 ∨ i = 8 ∨ i = 9 ∨ i = 10 := by omega
  any_goals exact h3
  exact ⟨h3.name, h3.epoch, h3.ver, h3.rel, h3.arch, h3.vendor, h3.prov, h3.obs, h3.files, h3.req, h3.con, h3.rcm, h3.sup, h3.sug, h3.enh⟩
theorem nmE_may (A : Option Addr) (c : Nat) : mayP (pkE30 A c) = true := by
  rw [show mayP (pkE30 A c) = mayP (pkE30 none 0) from Alike.may (p := pkE30 none 0) (q := pkE30 A c) ⟨rfl, rfl, rfl, rfl, rfl, rfl, rfl, rfl, rfl, rfl, rfl, rfl, rfl, rfl, rfl⟩]
  decide +kernel
theorem nm_ins_may : nmIns.all mayP = true := by decide +kernel
theorem nm_rep_may (A : Option Addr) (c : Nat) : (nmRep A c).all mayP = true := by
  have h := nmE_may A c
  have h0 : (nmRep none 0).all mayP = true := by decide +kernel
  simp only [nmRep, List.all_cons, List.all_nil, Bool.and_eq_true, and_true] at h0 ⊢
  exact ⟨h0.1, h0.2.1, h0.2.2.1, h, h0.2.2.2.2.1, h0.2.2.2.2.2⟩
theorem nm_err (A : Option Addr) (c : Nat) (RA : Option Addr) (rc : Nat) : errOf [⟨0, RA, rc, nmRep A c⟩] nmIns = 0 := by
  unfold errOf
  rw [if_neg (by simp [pksOf, nmIns, nmRep]), nm_ins_may]
  have h := nm_rep_may A c
  simp [rpOk, h]
theorem pkE30_deep (A : Option Addr) (c : Nat) : (pkE30 A c).deepOk ∧ (pkE30 A c).few := by
  refine ⟨fun x hx t ht => ?_, ?_⟩
  · simp only [LS, pkE30, pk30, List.mem_cons, List.not_mem_nil, or_false] at hx
    rcases hx with rfl | rfl | rfl | rfl | rfl | rfl <;> cases ht
  · exact ⟨by simp [pkE30, pk30], by simp [pkE30, pk30], by simp [pkE30, pk30], by simp [pkE30, pk30, partsL, treeL], by simp [pkE30, pk30, partsL, treeL], by simp [pkE30, pk30, partsL, treeL], by simp [pkE30, pk30, partsL, treeL], by simp [pkE30, pk30, partsL, treeL], by simp [pkE30, pk30, partsL, treeL]⟩
theorem nm_deep {A : Option Addr} {c : Nat} {RA : Option Addr} {rc : Nat} : ∀ x ∈ allP [⟨0, RA, rc, nmRep A c⟩] nmIns, x.deepOk ∧ x.few := by
  intro x hx
  simp only [allP, nmIns, nmRep, List.flatMap_cons, List.flatMap_nil, List.append_nil, List.cons_append, List.nil_append, List.mem_cons, List.not_mem_nil, or_false] at hx
  rcases hx with rfl | rfl | rfl | rfl | rfl | rfl | rfl | rfl | rfl | rfl | rfl
  all_goals first | exact pk30_deep _ _ | exact pkE30_deep _ _
end
section
/- Where steps.Of stands: its boxes, and the row of who is of the state. -/




open Go.RowKit Go.Shelf
set_option linter.unusedVariables false

theorem run_make_rowN {P : Program} (t e : TypeId) (i : TypeInfo) (z : Value) (ht : P.underlying t = some (.slice e)) (hi : P.info? e = some i) (hz : i.zero = some z)
    (kl kc : IntKind) (n : Nat) (hbytes : i.bytes * n ≤ 281474976710656) (h63 : n ≤ 9223372036854775807) (w : World) :
    (Instr.makeSlice t (.int kl (n : Int)) (.int kc (n : Int))).run P w = .ok (.slice (some ⟨w.heap.size, 0, none⟩) n n) (w.alloc (.cells (madeCells z.cells (n * i.size)) e)) := by
  have hb : (i.bytes : Int) * (n : Int) ≤ 281474976710656 := by
    have h : ((i.bytes * n : Nat) : Int) ≤ 281474976710656 := by omega
    rwa [Int.natCast_mul] at h
  have hr := run_make (P := P) w t e i z ht hi hz kl kc n n (by omega) (by omega) hb (by omega)
  simp only [Int.toNat_natCast] at hr
  exact hr
theorem infoBool : (Tryz.prog.info? 4).map (fun i => (i.zero, i.size, i.bytes)) = some (some (.bool false), 1, 1) := by kernel_rfl
theorem make_bools (n : Nat) (hn : n ≤ 1000000) (w : World) : (Instr.makeSlice 131 (.int .i64 (n : Int)) (.int .i64 (n : Int))).run Tryz.prog w = .ok (.slice (some ⟨w.heap.size, 0, none⟩) n n) (w.alloc (.cells (madeCells #[.bool false] n) 4)) := by
  obtain ⟨i0, hi, hz0, hz1, hz2⟩ := info_parts infoBool
  have h := run_make_rowN (P := Tryz.prog) 131 4 i0 (.bool false) Tryz.underlying131 hi hz0 .i64 .i64 n (by rw [hz2]; omega) (by omega) w
  rw [hz1, Nat.mul_one] at h
  exact h
/-- a row of bools -/
def BRow (rb n : Nat) (f : Nat → Bool) (W : World) : Prop := ∀ i, i < n → W.cell? ⟨rb, i, none⟩ = some (.bool (f i)) ∧ W.frozen? ⟨rb, i, none⟩ = false
theorem BRow.then {rb n : Nat} {f : Nat → Bool} {W W' : World} (h : BRow rb n f W) (hb : Below W.heap.size W W') : BRow rb n f W' := fun i hi => by
  obtain ⟨h1, h2⟩ := h i hi
  have hl := World.block_lt_of_cell? W _ h1
  exact ⟨(hb.cell hl).trans h1, (hb.frozen hl).trans h2⟩
theorem BRow.past {rb n B : Nat} {f : Nat → Bool} {W W' : World} (h : BRow rb n f W) (hB : rb < B) (hb : Below B W W') : BRow rb n f W' := fun i hi =>
  ⟨(hb.cell (p := ⟨rb, i, none⟩) hB).trans (h i hi).1, (hb.frozen (p := ⟨rb, i, none⟩) hB).trans (h i hi).2⟩
theorem BRow.made (n : Nat) (W : World) (t : TypeId) : BRow W.heap.size n (fun _ => false) (W.alloc (.cells (madeCells #[.bool false] n) t)) := fun i hi =>
  ⟨(World.cell?_alloc_at _ _ _ _ rfl).trans (by simp [madeCells, hi, Nat.mod_one]), by simp [go_sem]⟩
theorem BRow.set {rb n : Nat} {f : Nat → Bool} {W : World} (h : BRow rb n f W) {k : Nat} (hk : k < n) (b : Bool) : BRow rb n (fun i => if i = k then b else f i) (W.setCell ⟨rb, k, none⟩ (.bool b)) := fun i hi => by
  refine ⟨?_, (World.frozen?_setCell _ _ _ _).trans (h i hi).2⟩
  show _ = some (Value.bool (if i = k then b else f i))
  by_cases e : i = k
  · subst e; rw [if_pos rfl]; exact sc_same (h i hi).1
  · rw [if_neg e]
    exact (sc_other (fun h2 => e (by simp only [Addr.mk.injEq] at h2; exact h2.2.1.symm))).trans (h i hi).1
theorem BRow.congr {rb n : Nat} {f f' : Nat → Bool} {W : World} (h : BRow rb n f W) (hf : ∀ i, i < n → f i = f' i) : BRow rb n f' W := fun i hi => by rw [← hf i hi]; exact h i hi
structure OfAt (w : World) (P cb rb gb hz n : Nat) (f : Nat → Bool) (W : World) : Prop where
  old : Below w.heap.size w W
  p2 : W.cell? ⟨w.heap.size, 0, none⟩ = some (.pointer (some ⟨P, 0, none⟩))
  c0 : W.cell? ⟨cb, 0, none⟩ = some (.pointer (some ⟨P, 0, none⟩))
  c1 : W.cell? ⟨cb, 1, none⟩ = some (.slice (some ⟨rb, 0, none⟩) n n)
  g0 : W.cell? ⟨gb, 0, none⟩ = some (.pointer (some ⟨cb, 0, none⟩))
  row : BRow rb n f W
  hz : w.heap.size < cb ∧ w.heap.size < rb ∧ w.heap.size < gb ∧ cb < hz ∧ rb < hz ∧ gb < hz ∧ hz ≤ W.heap.size
section
variable {w W W' : World} {P cb rb gb hz n : Nat} {f : Nat → Bool}
theorem OfAt.past (h : OfAt w P cb rb gb hz n f W) (hb : Below hz W W') : OfAt w P cb rb gb hz n f W' := by
  obtain ⟨z1, z2, z3, z4, z5, z6, z7⟩ := h.hz
  exact ⟨h.old.trans (hb.mono (by omega)), (hb.cell (p := ⟨w.heap.size, 0, none⟩) (by show w.heap.size < hz; omega)).trans h.p2, (hb.cell (p := ⟨cb, 0, none⟩) z4).trans h.c0, (hb.cell (p := ⟨cb, 1, none⟩) z4).trans h.c1, (hb.cell (p := ⟨gb, 0, none⟩) z6).trans h.g0, h.row.past z5 hb, z1, z2, z3, z4, z5, z6, Nat.le_trans z7 hb.size⟩
theorem OfAt.then (h : OfAt w P cb rb gb hz n f W) (hb : Below W.heap.size W W') : OfAt w P cb rb gb hz n f W' := h.past (hb.mono h.hz.2.2.2.2.2.2)
theorem OfAt.set (h : OfAt w P cb rb gb hz n f W) {k : Nat} (hk : k < n) : OfAt w P cb rb gb hz n (fun i => if i = k then true else f i) (W.setCell ⟨rb, k, none⟩ (.bool true)) := by
  obtain ⟨z1, z2, z3, z4, z5, z6, z7⟩ := h.hz
  have h0 := (h.row 0 (by omega)).1
  have n1 : cb ≠ rb := fun e => by have := h.c0; rw [e, h0] at this; cases this
  have n2 : gb ≠ rb := fun e => by have := h.g0; rw [e, h0] at this; cases this
  have ne : ∀ b j, b ≠ rb → (⟨rb, k, none⟩ : Addr) ≠ ⟨b, j, none⟩ := fun b j hb e => by simp only [Addr.mk.injEq] at e; exact hb e.1.symm
  exact ⟨h.old.setCell (p := ⟨rb, k, none⟩) (by show w.heap.size ≤ rb; omega) _, (sc_other (ne _ _ (by omega))).trans h.p2, (sc_other (ne _ _ n1)).trans h.c0, (sc_other (ne _ _ n1)).trans h.c1, (sc_other (ne _ _ n2)).trans h.g0, h.row.set hk true, z1, z2, z3, z4, z5, z6, by simpa [World.setCell] using z7⟩
theorem OfAt.congr {f' : Nat → Bool} (h : OfAt w P cb rb gb hz n f W) (hf : ∀ i, i < n → f i = f' i) : OfAt w P cb rb gb hz n f' W := ⟨h.old, h.p2, h.c0, h.c1, h.g0, h.row.congr hf, h.hz⟩
theorem OfAt.ch {I0 : Nat} {L : List Pr} {I : Int} (h : OfAt w P cb rb gb hz n f W) (hp : Pool P I L w) (hI : I = (I0 : Int)) {inb : List Bool} (hi : ∀ i, i < n → f i = inb.getD i false) (X : Nat → Prop) (hX : ∀ b, X b → hz ≤ b) : ChAt cb P I0 n inb X W := by
  obtain ⟨z1, z2, z3, z4, z5, z6, z7⟩ := h.hz
  have hP := (hp.then (h.old)).at_
  refine ⟨h.c0, ⟨some ⟨rb, 0, none⟩, n, h.c1, fun j hj => ⟨rb, 0, rfl, fun hx => by have := hX _ hx; omega, ?_⟩⟩, ?_, fun hx => by have := hX _ hx; omega, fun hx => by have := hX _ hx; have := hp.at_.lt; omega⟩
  · rw [Nat.zero_add, ← hi j hj]; exact (h.row j hj).1
  · rw [← hI]; exact hP.c1
end
/-- what an own row's growth keeps -/
theorem KX.grown {X : Nat → Prop} {W W' : World} {row : Option Nat} (h : W.grownBy W' row) (hr : ∀ j, row = some j → X j) : KX X W W' := ⟨fun a v ha hv => by
  have hl := World.block_lt_of_cell? W _ hv
  have hb := h.block a.block hl (fun e => ha (hr _ e.symm))
  exact ⟨(World.cell?_of_block hb).trans hv, World.frozen?_of_block hb⟩, h.size⟩
/-- the steps that are put down so far -/
structure OutAt (base ob : Nat) (D : List (Int × Int)) (W : World) : Prop where
  row : ∃ v, W.cell? ⟨ob, 0, none⟩ = some v ∧ Own encSt 2 base 61 v D W
  fz : W.frozen? ⟨ob, 0, none⟩ = false
  hz : ob < base ∧ base ≤ W.heap.size
theorem OutAt.then {base ob : Nat} {D : List (Int × Int)} {W W' : World} (h : OutAt base ob D W) (hb : Below W.heap.size W W') : OutAt base ob D W' := by
  obtain ⟨v, h1, h2⟩ := h.row
  have hl := World.block_lt_of_cell? W _ h1
  exact ⟨⟨v, (hb.cell hl).trans h1, h2.below hb (Nat.le_refl _)⟩, (hb.frozen hl).trans h.fz, h.hz.1, Nat.le_trans h.hz.2 hb.size⟩
/-- a step more -/
theorem OutAt.more {base ob : Nat} {D : List (Int × Int)} {W W1 : World} {x : Int × Int} {v v' : Value} (hz : ob < base ∧ base ≤ W.heap.size) (hf : W.frozen? ⟨ob, 0, none⟩ = false) (hc : W.cell? ⟨ob, 0, none⟩ = some v) (ho : Own encSt 2 base 61 v D W) (hg : W.grownBy W1 v.ownBlock) (ho' : Own encSt 2 base 61 v' (D ++ [x]) W1) :
    (W1.cell? ⟨ob, 0, none⟩ = some v ∧ W1.frozen? ⟨ob, 0, none⟩ = false) ∧ OutAt base ob (D ++ [x]) (W1.setCell ⟨ob, 0, none⟩ v') ∧ KX (fun b => b = ob ∨ base ≤ b) W (W1.setCell ⟨ob, 0, none⟩ v') ∧ KeepsOthers W (W1.setCell ⟨ob, 0, none⟩ v') ∧ Below ob W (W1.setCell ⟨ob, 0, none⟩ v') := by
  have hr : ∀ (u : Value) (E : List (Int × Int)) (U : World), Own encSt 2 base 61 u E U → ∀ j, u.ownBlock = some j → base ≤ j := fun u E U h j e => (World.ownsRow.lt h j e).1
  have hl := World.block_lt_of_cell? W _ hc
  have hb := hg.block ob hl (fun e => by have := hr _ _ _ ho _ e.symm; omega)
  have c1 : W1.cell? ⟨ob, 0, none⟩ = some v := (World.cell?_of_block hb).trans hc
  have f1 : W1.frozen? ⟨ob, 0, none⟩ = false := (World.frozen?_of_block hb).trans hf
  refine ⟨⟨c1, f1⟩, ⟨⟨v', sc_same c1, ?_⟩, (World.frozen?_setCell _ _ _ _).trans f1, hz.1, ?_⟩, ?_, ?_, ?_⟩
  · exact World.ownsRow.kept ho' (grownBy_setCell' W1 ob v') (.inr (fun e => by have := hr _ _ _ ho' _ e; omega))
  · have := hg.size; simp [World.setCell]; omega
  · exact (KX.grown hg fun j e => .inr (hr _ _ _ ho j e)).trans (KX.set _ (.inl rfl) _ _)
  · refine (KeepsOthers.of_grownBy hg fun j o ej hj => ?_).trans (KeepsOthers.setCell _ _ _)
    rcases ho.2 with ⟨rfl, _⟩ | ⟨g, cap, cur, rfl, _, hgb, _⟩
    · simp [Value.ownBlock] at ej
    · obtain rfl : g = j := by simpa [Value.ownBlock] using ej
      rw [hgb] at hj; cases hj; rfl
  · exact ((Below.refl ob W).grown hg (by omega) fun j e => by have := hr _ _ _ ho j e; omega).setCell (p := ⟨ob, 0, none⟩) (Nat.le_refl _) _
end
end Go.Proofs.YteobmfpbgnmffaaGreatDoor
