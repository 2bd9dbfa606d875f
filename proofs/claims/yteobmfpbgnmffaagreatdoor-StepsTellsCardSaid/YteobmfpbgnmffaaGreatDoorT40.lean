/- StAwL -/
import Derived.Test.YteobmfpbgnmffaaGreatDoorT36
set_option linter.unusedVariables false
set_option linter.unusedSimpArgs false
namespace Go.Proofs.YteobmfpbgnmffaaGreatDoor
open Go.RowKit Go.Shelf
def mkPr (p : Pk) : Pr := ⟨p, 0, 0⟩
section
variable {l : List Pk} {L : List Pr}
theorem qCU (h : qAI l L) (i : Nat) : (i < l.length /\ ∃ x y, (l.map mkPr)[i]? = some x /\ L[i]? = some y /\ Alike x.pk y.pk) \/ ((l.map mkPr)[i]? = none /\ L[i]? = none) := by
 rcases Nat.lt_or_ge i l.length with hi | hi
 ·have h2 : i < L.length := by rw [h.1]; exact hi
  exact .inl ⟨hi, mkPr l[i], L[i], by simp [hi], List.getElem?_eq_getElem h2, h.2 i hi h2⟩
 ·exact .inr ⟨List.getElem?_eq_none (by simpa using hi), List.getElem?_eq_none (by rw [h.1]; exact hi)⟩
theorem qS8 (h : qAI l L) : nmP L = nmP (l.map mkPr) := funext fun i => funext fun j => by
 unfold nmP;rcases qCU h i with ⟨_, x, y, h1, h2, h3⟩ | ⟨h1, h2⟩ <;> rcases qCU h j with ⟨_, x', y', k1, k2, k3⟩ | ⟨k1, k2⟩ <;> rw [h1, h2, k1, k2]
 show decide (y.pk.name = y'.pk.name) = decide (x.pk.name = x'.pk.name);rw [h3.name, k3.name]
theorem qQA (h : qAI l L) : qC6 L = qC6 (l.map mkPr) := funext fun i => funext fun j => by
 unfold qC6;rcases qCU h i with ⟨_, x, y, h1, h2, h3⟩ | ⟨h1, h2⟩ <;> rcases qCU h j with ⟨_, x', y', k1, k2, k3⟩ | ⟨k1, k2⟩ <;> rw [h1, h2, k1, k2]
 show ecmp y.pk.evr y'.pk.evr = ecmp x.pk.evr x'.pk.evr;rw [h3.evr, k3.evr]
theorem qND {p q : Pk} (h : Alike p q) : q.ownD = p.ownD := by unfold Pk.ownD; rw [h.name, h.evr]
theorem qST (h : qAI l L) : obsP L = obsP (l.map mkPr) := funext fun i => funext fun j => by
 unfold obsP;rw [show (l.map mkPr).length = L.length by rw [List.length_map, h.1]]
 congr 1
 congr 1
 congr 1
 rcases qCU h i.toNat with ⟨_, x, y, h1, h2, h3⟩ | ⟨h1, h2⟩ <;> rcases qCU h j.toNat with ⟨_, x', y', k1, k2, k3⟩ | ⟨k1, k2⟩ <;> rw [h1, h2, k1, k2]
 show (y.pk.obs.any fun d => qAP y'.pk.ownD d) = (x.pk.obs.any fun d => qAP x'.pk.ownD d);rw [h3.obs, qND k3]
theorem qGS (h : qAI l L) (I0 : Nat) (S : List Int) : qBY L I0 S = qBY (l.map mkPr) I0 S := by
 unfold qBY qED qGK qF1 qGE;rw [qS8 h, qQA h, qST h, show L.length = (l.map mkPr).length by rw [List.length_map, h.1]]
end
def pk30 (n v : ByteArray) : Pk := { name := n, epoch := 0, ver := v, rel := ⟨#[49]⟩, arch := 1, vendor := ⟨#[]⟩, provA := none, provC := 0, prov := [], reqA := none, reqC := 0, req := [], conA := none, conC := 0, con := [], obsA := none, obsC := 0, obs := [], rcmA := none, rcmC := 0, rcm := [], supA := none, supC := 0, sup := [], sugA := none, sugC := 0, sug := [], enhA := none, enhC := 0, enh := [], filesA := none, filesC := 0, files := [] }
def qBP (A : Option Addr) (c : Nat) : Pk := { pk30 ⟨#[98]⟩ ⟨#[49]⟩ with obsA := A, obsC := c, obs := [⟨[99], 0, ⟨0, [], []⟩⟩] }
def aw30 (A : Option Addr) (c : Nat) : List Pk := [pk30 ⟨#[97]⟩ ⟨#[49]⟩, pk30 ⟨#[97]⟩ ⟨#[50]⟩, qBP A c]
theorem qP1 {A : Option Addr} {c : Nat} {L : List Pr} (h : qAI (aw30 A c) L) : qAI (aw30 none 0) L := by
 refine ⟨h.1, fun i h1 h2 => ?_⟩;have h3 := h.2 i h1 h2;have h4 : i < 3 := h1;obtain rfl | rfl | rfl : i = 0 \/ i = 1 \/ i = 2 := by omega
 iterate 2 ·exact h3
 ·exact ⟨h3.name, h3.epoch, h3.ver, h3.rel, h3.arch, h3.vendor, h3.prov, h3.obs, h3.files, h3.req, h3.con, h3.rcm, h3.sup, h3.sug, h3.enh⟩
theorem qVE : qBY ((aw30 none 0).map mkPr) 1 [1] = [(7, 0), (2, 1)] := by decide +kernel
theorem qV8 : qBY ((aw30 none 0).map mkPr) 1 [2] = [(6, 0), (1, 2)] := by decide +kernel
theorem qTK : qAZ 3 1 [(7, 0), (2, 1)] = 0 /\ qAR 3 1 [(7, 0), (2, 1)] = [1] := ⟨by decide +kernel, by decide +kernel⟩
theorem qRH (A : Option Addr) (c : Nat) : ∀ x ∈ aw30 A c, mayP x = true := by
 intro x hx;simp only [aw30, List.mem_cons, List.not_mem_nil, or_false] at hx;rcases hx with rfl | rfl | rfl
 iterate 2 ·decide +kernel
 ·rw [show mayP (qBP A c) = mayP (qBP none 0) from Alike.may (p := qBP none 0) (q := qBP A c) ⟨rfl, rfl, rfl, rfl, rfl, rfl, rfl, rfl, rfl, rfl, rfl, rfl, rfl, rfl, rfl⟩];decide +kernel
theorem qM1 (A : Option Addr) (c : Nat) (RA : Option Addr) (rc : Nat) : qB8 [⟨0, RA, rc, [pk30 ⟨#[97]⟩ ⟨#[50]⟩, qBP A c]⟩] [pk30 ⟨#[97]⟩ ⟨#[49]⟩] = 0 := by
 have h := qRH A c;have h0 := h _ (by simp [aw30] : pk30 ⟨#[97]⟩ ⟨#[49]⟩ ∈ aw30 A c);have h1 := h _ (by simp [aw30] : pk30 ⟨#[97]⟩ ⟨#[50]⟩ ∈ aw30 A c);have h2 := h _ (by simp [aw30] : qBP A c ∈ aw30 A c);unfold qB8;rw [if_neg (by simp [qBK])];simp [rpOk, h0, h1, h2]
theorem qP4 (n v : ByteArray) : (pk30 n v).deepOk /\ (pk30 n v).few := by
 refine ⟨fun x hx t ht => ?_, ?_⟩
 ·simp only [LS, pk30, List.mem_cons, List.not_mem_nil, or_false] at hx;rcases hx with rfl | rfl | rfl | rfl | rfl | rfl <;> cases ht
 ·exact ⟨by simp [pk30], by simp [pk30], by simp [pk30], by simp [pk30, qAB, qA6], by simp [pk30, qAB, qA6], by simp [pk30, qAB, qA6], by simp [pk30, qAB, qA6], by simp [pk30, qAB, qA6], by simp [pk30, qAB, qA6]⟩
theorem qNC (A : Option Addr) (c : Nat) : (qBP A c).deepOk /\ (qBP A c).few := by
 refine ⟨fun x hx t ht => ?_, ?_⟩
 ·simp only [LS, qBP, pk30, List.mem_cons, List.not_mem_nil, or_false] at hx;rcases hx with rfl | rfl | rfl | rfl | rfl | rfl <;> cases ht
 ·exact ⟨by simp [qBP, pk30], by simp [qBP, pk30], by simp [qBP, pk30], by simp [qBP, pk30, qAB, qA6], by simp [qBP, pk30, qAB, qA6], by simp [qBP, pk30, qAB, qA6], by simp [qBP, pk30, qAB, qA6], by simp [qBP, pk30, qAB, qA6], by simp [qBP, pk30, qAB, qA6]⟩
