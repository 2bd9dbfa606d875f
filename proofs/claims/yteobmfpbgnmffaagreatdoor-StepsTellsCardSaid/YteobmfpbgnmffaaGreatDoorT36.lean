/- StVal -/
import Derived.Test.YteobmfpbgnmffaaGreatDoorT35
set_option linter.unusedVariables false
set_option linter.unusedSimpArgs false
namespace Go.Proofs.YteobmfpbgnmffaaGreatDoor
open Go.RowKit Go.Shelf
def badS (N : Nat) (S : List Int) : Bool := S.any fun z => decide (z < 0) || decide ((N : Int) <= z)
def qG8 (N : Nat) (S : List Int) : List Bool := (List.range N).map (St.inS S)
def qED (L : List Pr) (inb : List Bool) (I0 k : Nat) : Int := if k < I0 then qGK L inb I0 L.length k else qF1 L inb I0 k
def qBY (L : List Pr) (I0 : Nat) (S : List Int) : List (Int × Int) := if badS L.length S then [] else (chgl (qG8 L.length S) I0 0 L.length).map fun k => (qED L (qG8 L.length S) I0 k, (k : Int))
def obN (L : List Pr) (i j : Nat) : Bool := obsP L (i : Int) (j : Int)
section
variable {N I0 : Nat} {S : List Int} {L : List Pr}
theorem qTP {k : Nat} (h : k < N) : (qG8 N S).getD k false = St.inS S k := by
 unfold qG8;rw [List.getD_eq_getElem?_getD, List.getElem?_map, List.getElem?_range h];rfl
theorem qRX {k : Nat} (h : k < N) : chgd (qG8 N S) I0 k = St.chg I0 S k := by
 unfold chgd St.chg;rw [qTP h];simp
theorem qFZ {a b : Nat} (hb : b <= N) : chgl (qG8 N S) I0 a b = St.chgs I0 S a b := by
 unfold chgl St.chgs;refine List.filter_congr fun x hx => qRX ?_;have := List.mem_range'_1.1 hx;omega
theorem qV1 (hI : I0 <= L.length) (k : Nat) : qGK L (qG8 L.length S) I0 L.length k = St.goesK I0 (nmP L) (obN L) S L.length k := by
 unfold qGK St.goesK;rw [qFZ lR];rfl
theorem qSK (hI : I0 <= L.length) (k : Nat) : qF1 L (qG8 L.length S) I0 k = St.comesK I0 (nmP L) (obN L) (qC6 L) S k := by
 unfold qF1 St.comesK qGE;rw [qFZ hI];rfl
theorem qUZ (hI : I0 <= L.length) (k : Nat) : qED L (qG8 L.length S) I0 k = St.kindK I0 (nmP L) (obN L) (qC6 L) S L.length k := by
 unfold qED St.kindK;rw [qV1 hI, qSK hI]
abbrev knd (L : List Pr) (I0 : Nat) (S : List Int) (k : Nat) : Int := St.kindK I0 (nmP L) (obN L) (qC6 L) S L.length k
theorem qJY (hI : I0 <= L.length) (hb : badS L.length S = false) : qBY L I0 S = (St.chgs I0 S 0 L.length).map fun k => (knd L I0 S k, (k : Int)) := by
 unfold qBY;rw [hb, qFZ lR];exact List.map_congr_left fun k _ => by rw [qUZ hI]
theorem qDT (hb : badS L.length S = true) : qBY L I0 S = [] := by unfold qBY; rw [hb]; rfl
theorem qDG : badS N S = false ↔ ∀ z ∈ S, 0 <= z /\ z < (N : Int) := by
 unfold badS;rw [List.any_eq_false];refine ⟨fun h z hz => ?_, fun h z hz => ?_⟩
 ·have := h z hz;simp only [Bool.or_eq_true, decide_eq_true_eq, not_or, Int.not_lt, Int.not_le] at this;omega
 ·have := h z hz;simp only [Bool.or_eq_true, decide_eq_true_eq, not_or, Int.not_lt, Int.not_le];omega
theorem qHK {a i b : Nat} (h1 : a <= i) (h2 : i <= b) : St.chgs I0 S a b = St.chgs I0 S a i ++ St.chgs I0 S i b := by
 unfold St.chgs;rw [<- List.filter_append]
 congr 1
 have h := @List.range'_append_1 a (i - a) (b - i);rw [show a + (i - a) = i by omega, show i - a + (b - i) = b - a by omega] at h;exact h.symm
theorem qJX {i b : Nat} (h : i < b) : St.chgs I0 S i b = (if St.chg I0 S i then [i] else []) ++ St.chgs I0 S (i + 1) b := by
 unfold St.chgs;rw [show b - i = (b - (i + 1)) + 1 by omega, List.range'_succ, List.filter_cons];cases St.chg I0 S i <;> rfl
theorem qCS (i : Nat) : St.chgs I0 S i i = [] := by unfold St.chgs; rw [Nat.sub_self]; rfl
theorem qLO {n : Nat} : St.chgs I0 S 0 (n + 1) = St.chgs I0 S 0 n ++ (if St.chg I0 S n then [n] else []) := by
 rw [qHK (Nat.zero_le n) (Nat.le_succ n), qJX (Nat.lt_succ_self n), qCS, List.append_nil]
theorem qUQ (b : Nat) : (St.chgs I0 S 0 b).length <= b := by
 unfold St.chgs;have := List.length_filter_le (St.chg I0 S) (List.range' 0 (b - 0));rw [List.length_range'] at this;exact this
theorem qN7 (hI : I0 <= L.length) (hb : badS L.length S = false) : (qBY L I0 S).length = (St.chgs I0 S 0 L.length).length := by rw [qJY hI hb, List.length_map]
def qB6 (I0 : Nat) : List Int -> List (Int × Int) -> Bool
 | _, [] => true
 | seen, x :: l => !seen.contains x.2 && (if x.2 < (I0 : Int) then qBT x.1 else qBA x.1) && qB6 I0 (seen ++ [x.2]) l
def qAZ (N I0 : Nat) (l : List (Int × Int)) : Int := if badS N (l.map fun x => x.2) then 5 else if qB6 I0 [] l then 0 else 4
def qE0 (N I0 : Nat) (T : List Int) : List Int := ((List.range N).filter fun n : Nat => T.contains (n : Int) != decide (n < I0)).map fun n : Nat => (n : Int)
def qAR (N I0 : Nat) (l : List (Int × Int)) : List Int := if qAZ N I0 l = 0 then qE0 N I0 (l.map fun x => x.2) else []
theorem qDF (n : Nat) : S.contains (n : Int) = St.inS S n := by
 unfold St.inS;rw [Bool.eq_iff_iff, List.contains_iff_mem, List.any_eq_true];constructor
 ·intro h; exact ⟨_, h, by simp⟩
 ·rintro ⟨z, hz, e⟩; rw [<- (by simpa using e : z = (n : Int))]; exact hz
