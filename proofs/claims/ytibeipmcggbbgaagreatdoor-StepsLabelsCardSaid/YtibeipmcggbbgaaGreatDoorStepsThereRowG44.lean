/- StMade, StAwL -/
import Derived.Test.YtibeipmcggbbgaaGreatDoorStepsThereRowG31
import Derived.Test.YtibeipmcggbbgaaGreatDoorStepsThereRowG43
import Derived.Test.YtibeipmcggbbgaaGreatDoorStepsThereRowG39
set_option linter.unusedSimpArgs false
set_option linter.unusedVariables false
namespace Go.Proofs.YtibeipmcggbbgaaGreatDoor
section
/- A pool that a statement of the steps makes of packages that are not more than it goes over. -/



open Go.RowKit Go.Shelf
set_option linter.unusedVariables false

theorem deep_slim {p : Pk} (hk : ∀ x ∈ LS p, ∀ t ∈ x.l, KO t) (hs : ∀ k, k < 6 → partsL (treeL (sixL p k)) ≤ 2000) : p.deepOk := by
 have hh : ∀ (l : List RV), partsL (treeL l) ≤ 2000 → ∀ t ∈ l, t.tree.parts ≤ 1000000 := by
  intro l hl t ht
  obtain ⟨i, hi, rfl⟩ := List.getElem_of_mem ht
  have h1 := partsL_take3 (l := treeL l) (k := i) (by rw [treeL_len]; exact hi)
  have h2 := partsL_mono (treeL l) (i + 1)
  rw [treeL_get l i hi] at h1
  omega
 intro x hx t ht
 refine ⟨hk x hx t ht, ?_⟩
 have hx2 := hx
 simp only [LS, List.mem_cons, List.not_mem_nil, or_false] at hx2
 rcases hx2 with rfl | rfl | rfl | rfl | rfl | rfl
 ·exact hh _ (hs 0 (by omega)) t ht
 ·exact hh _ (hs 1 (by omega)) t ht
 ·exact hh _ (hs 2 (by omega)) t ht
 ·exact hh _ (hs 3 (by omega)) t ht
 ·exact hh _ (hs 4 (by omega)) t ht
 ·exact hh _ (hs 5 (by omega)) t ht
theorem few_slim {p : Pk} (h : p.slim) : p.few :=
 ⟨by have := h.provN; omega, by have := h.obsN; omega, by have := h.filesN; omega, Nat.le_trans (show partsL (treeL p.req) ≤ 2000 from h.parts 0 (by omega)) (by omega), Nat.le_trans (show partsL (treeL p.con) ≤ 2000 from h.parts 1 (by omega)) (by omega), Nat.le_trans (show partsL (treeL p.rcm) ≤ 2000 from h.parts 2 (by omega)) (by omega), Nat.le_trans (show partsL (treeL p.sup) ≤ 2000 from h.parts 3 (by omega)) (by omega), Nat.le_trans (show partsL (treeL p.sug) ≤ 2000 from h.parts 4 (by omega)) (by omega), Nat.le_trans (show partsL (treeL p.enh) ≤ 2000 from h.parts 5 (by omega)) (by omega)⟩
theorem deep_narrow {repos : List Rp} {ins : List Pk} {k : Int} {W : World} (h : Narrow repos ins k) (hr : ∀ r ∈ repos, ∀ p ∈ r.pk, PkQ W p) (hi : ∀ p ∈ ins, PkQ W p) : ∀ x ∈ allP repos ins, x.deepOk ∧ x.few := by
 intro x hx
 rcases List.mem_append.1 hx with hx | hx
 ·exact ⟨deep_slim (hi x hx).2 (h.si x hx).parts, few_slim (h.si x hx)⟩
 ·obtain ⟨r, hr2, hx⟩ := List.mem_flatMap.1 hx
  exact ⟨deep_slim (hr r hr2 x hx).2 (h.sr r hr2 x hx).parts, few_slim (h.sr r hr2 x hx)⟩
/-- what a statement knows of the pool that it makes -/
def MadePost (repos : List Rp) (ins : List Pk) (w : World) (e : Ending) (w' : World) : Prop :=
 ((∃ (P : Nat) (L : List Pr), e = .returned (.tuple #[.pointer (some ⟨P, 0, none⟩), .int .i64 0]) ∧ Pool P (ins.length : Int) L w' ∧ ins.length ≤ L.length ∧ L.length ≤ 100) ∨ (∃ er : Int, (er == 0) = false ∧ e = .returned (.tuple #[.pointer none, .int .i64 er]))) ∧ Below w.heap.size w w'
theorem made_any {RA : Option Addr} {rc : Nat} {repos : List Rp} {IA : Option Addr} {ic : Nat} {ins : List Pk} {w0 w : World} {k : Int} (hI : PkIn w) (hr : RpRow w.heap.size w RA rc repos) (hi : PRow w.heap.size w IA ic ins) (hN : Narrow repos ins k) (hrq : ∀ r ∈ repos, ∀ p ∈ r.pk, PkQ w0 p) (hiq : ∀ p ∈ ins, PkQ w0 p) :
  Calls Tryz.prog 20 #[.slice RA repos.length rc, .slice IA ins.length ic] w (MadePost repos ins w) := by
 have hd := deep_narrow hN hrq hiq
 have h1 := hN.all
 have h2 := hN.nr
 refine (poolnew_any RA rc repos IA ic ins w hI hr hi hd (by omega) (by omega)).mono ?_
 rintro e w' ⟨hok, hno, hb⟩
 refine ⟨?_, hb⟩
 by_cases he : errOf repos ins = 0
 ·obtain ⟨P, L, rfl, hat, hal⟩ := hok he
  have hl := hal.1
  rw [allP_len] at hl
  exact .inl ⟨P, L, rfl, Pool.of hat hal he fun x hx => (hd x hx).2, by omega, by omega⟩
 ·exact .inr ⟨_, beq_eq_false_iff_ne.2 he, hno he⟩
end
section
/- The examples of the steps' statements, in plain terms. -/


open Go.RowKit Go.Shelf
set_option linter.unusedVariables false

def mkPr (p : Pk) : Pr := ⟨p, 0, 0⟩
section
variable {l : List Pk} {L : List Pr}
theorem alike_get (h : AllAlike l L) (i : Nat) : (i < l.length ∧ ∃ x y, (l.map mkPr)[i]? = some x ∧ L[i]? = some y ∧ Alike x.pk y.pk) ∨ ((l.map mkPr)[i]? = none ∧ L[i]? = none) := by
 rcases Nat.lt_or_ge i l.length with hi | hi
 ·have h2 : i < L.length := by rw [h.1]; exact hi
  exact .inl ⟨hi, mkPr l[i], L[i], by simp [hi], List.getElem?_eq_getElem h2, h.2 i hi h2⟩
 ·exact .inr ⟨List.getElem?_eq_none (by simpa using hi), List.getElem?_eq_none (by rw [h.1]; exact hi)⟩
theorem alike_nm (h : AllAlike l L) : nmP L = nmP (l.map mkPr) := funext fun i => funext fun j => by
 unfold nmP
 rcases alike_get h i with ⟨_, x, y, h1, h2, h3⟩ | ⟨h1, h2⟩ <;> rcases alike_get h j with ⟨_, x', y', k1, k2, k3⟩ | ⟨k1, k2⟩ <;> rw [h1, h2, k1, k2]
 show decide (y.pk.name = y'.pk.name) = decide (x.pk.name = x'.pk.name)
 rw [h3.name, k3.name]
theorem alike_cmp (h : AllAlike l L) : cmpI2 L = cmpI2 (l.map mkPr) := funext fun i => funext fun j => by
 unfold cmpI2
 rcases alike_get h i with ⟨_, x, y, h1, h2, h3⟩ | ⟨h1, h2⟩ <;> rcases alike_get h j with ⟨_, x', y', k1, k2, k3⟩ | ⟨k1, k2⟩ <;> rw [h1, h2, k1, k2]
 show ecmp y.pk.evr y'.pk.evr = ecmp x.pk.evr x'.pk.evr
 rw [h3.evr, k3.evr]
theorem alike_ownD {p q : Pk} (h : Alike p q) : q.ownD = p.ownD := by unfold Pk.ownD; rw [h.name, h.evr]
theorem alike_ob (h : AllAlike l L) : obsP L = obsP (l.map mkPr) := funext fun i => funext fun j => by
 unfold obsP
 rw [show (l.map mkPr).length = L.length by rw [List.length_map, h.1]]
 congr 1
 congr 1
 congr 1
 rcases alike_get h i.toNat with ⟨_, x, y, h1, h2, h3⟩ | ⟨h1, h2⟩ <;> rcases alike_get h j.toNat with ⟨_, x', y', k1, k2, k3⟩ | ⟨k1, k2⟩ <;> rw [h1, h2, k1, k2]
 show (y.pk.obs.any fun d => meetsN y'.pk.ownD d) = (x.pk.obs.any fun d => meetsN x'.pk.ownD d)
 rw [h3.obs, alike_ownD k3]
theorem alike_steps (h : AllAlike l L) (I0 : Nat) (S : List Int) : stepsV L I0 S = stepsV (l.map mkPr) I0 S := by
 unfold stepsV kindV goesV comesV comesOf
 rw [alike_nm h, alike_cmp h, alike_ob h, show L.length = (l.map mkPr).length by rw [List.length_map, h.1]]
end
def pk30 (n v : ByteArray) : Pk := { name := n, epoch := 0, ver := v, rel := ⟨#[49]⟩, arch := 1, vendor := ⟨#[]⟩, provA := none, provC := 0, prov := [], reqA := none, reqC := 0, req := [], conA := none, conC := 0, con := [], obsA := none, obsC := 0, obs := [], rcmA := none, rcmC := 0, rcm := [], supA := none, supC := 0, sup := [], sugA := none, sugC := 0, sug := [], enhA := none, enhC := 0, enh := [], filesA := none, filesC := 0, files := [] }
/-- b 1, that obsoletes c -/
def pkB30 (A : Option Addr) (c : Nat) : Pk := { pk30 ⟨#[98]⟩ ⟨#[49]⟩ with obsA := A, obsC := c, obs := [⟨[99], 0, ⟨0, [], []⟩⟩] }
def aw30 (A : Option Addr) (c : Nat) : List Pk := [pk30 ⟨#[97]⟩ ⟨#[49]⟩, pk30 ⟨#[97]⟩ ⟨#[50]⟩, pkB30 A c]
theorem aw30_of {A : Option Addr} {c : Nat} {L : List Pr} (h : AllAlike (aw30 A c) L) : AllAlike (aw30 none 0) L := by
 refine ⟨h.1, fun i h1 h2 => ?_⟩
 have h3 := h.2 i h1 h2
 have h4 : i < 3 := h1
 obtain rfl | rfl | rfl : i = 0 ∨ i = 1 ∨ i = 2 := by omega
 ·exact h3
 ·exact h3
 ·exact ⟨h3.name, h3.epoch, h3.ver, h3.rel, h3.arch, h3.vendor, h3.prov, h3.obs, h3.files, h3.req, h3.con, h3.rcm, h3.sup, h3.sug, h3.enh⟩
theorem aw30_l : stepsV ((aw30 none 0).map mkPr) 1 [1] = [(7, 0), (2, 1)] := by decide +kernel
theorem aw30_m : stepsV ((aw30 none 0).map mkPr) 1 [2] = [(6, 0), (1, 2)] := by decide +kernel
theorem aw30_s : applyE 3 1 [(7, 0), (2, 1)] = 0 ∧ applyV 3 1 [(7, 0), (2, 1)] = [1] := ⟨by decide +kernel, by decide +kernel⟩
theorem aw30_may (A : Option Addr) (c : Nat) : ∀ x ∈ aw30 A c, mayP x = true := by
 intro x hx
 simp only [aw30, List.mem_cons, List.not_mem_nil, or_false] at hx
 rcases hx with rfl | rfl | rfl
 ·decide +kernel
 ·decide +kernel
 ·rw [show mayP (pkB30 A c) = mayP (pkB30 none 0) from Alike.may (p := pkB30 none 0) (q := pkB30 A c) ⟨rfl, rfl, rfl, rfl, rfl, rfl, rfl, rfl, rfl, rfl, rfl, rfl, rfl, rfl, rfl⟩]
  decide +kernel
theorem aw30_err (A : Option Addr) (c : Nat) (RA : Option Addr) (rc : Nat) : errOf [⟨0, RA, rc, [pk30 ⟨#[97]⟩ ⟨#[50]⟩, pkB30 A c]⟩] [pk30 ⟨#[97]⟩ ⟨#[49]⟩] = 0 := by
 have h := aw30_may A c
 have h0 := h _ (by simp [aw30] : pk30 ⟨#[97]⟩ ⟨#[49]⟩ ∈ aw30 A c)
 have h1 := h _ (by simp [aw30] : pk30 ⟨#[97]⟩ ⟨#[50]⟩ ∈ aw30 A c)
 have h2 := h _ (by simp [aw30] : pkB30 A c ∈ aw30 A c)
 unfold errOf
 rw [if_neg (by simp [pksOf])]
 simp [rpOk, h0, h1, h2]
theorem pk30_deep (n v : ByteArray) : (pk30 n v).deepOk ∧ (pk30 n v).few := by
 refine ⟨fun x hx t ht => ?_, ?_⟩
 ·simp only [LS, pk30, List.mem_cons, List.not_mem_nil, or_false] at hx
  rcases hx with rfl | rfl | rfl | rfl | rfl | rfl <;> cases ht
 ·exact ⟨by simp [pk30], by simp [pk30], by simp [pk30], by simp [pk30, partsL, treeL], by simp [pk30, partsL, treeL], by simp [pk30, partsL, treeL], by simp [pk30, partsL, treeL], by simp [pk30, partsL, treeL], by simp [pk30, partsL, treeL]⟩
theorem pkB30_deep (A : Option Addr) (c : Nat) : (pkB30 A c).deepOk ∧ (pkB30 A c).few := by
 refine ⟨fun x hx t ht => ?_, ?_⟩
 ·simp only [LS, pkB30, pk30, List.mem_cons, List.not_mem_nil, or_false] at hx
  rcases hx with rfl | rfl | rfl | rfl | rfl | rfl <;> cases ht
 ·exact ⟨by simp [pkB30, pk30], by simp [pkB30, pk30], by simp [pkB30, pk30], by simp [pkB30, pk30, partsL, treeL], by simp [pkB30, pk30, partsL, treeL], by simp [pkB30, pk30, partsL, treeL], by simp [pkB30, pk30, partsL, treeL], by simp [pkB30, pk30, partsL, treeL], by simp [pkB30, pk30, partsL, treeL]⟩
end
end Go.Proofs.YtibeipmcggbbgaaGreatDoor
