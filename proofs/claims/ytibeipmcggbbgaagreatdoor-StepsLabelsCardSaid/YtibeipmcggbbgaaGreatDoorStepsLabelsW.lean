/- Walk: StepsLabels; and what it wants beside the texts that it imports. -/
import Derived.Deep.CutRange
import Derived.Deep.CutBlock
import Derived.Test.YtibeipmcggbbgaaGreatDoorStepsThereRowG40
import Derived.Test.YtibeipmcggbbgaaGreatDoorStepsThereRowG41
import Derived.Test.YtibeipmcggbbgaaGreatDoorStepsThereRowG44
import Derived.Test.YtibeipmcggbbgaaGreatDoorStepsThereRowG45
import Derived.Test.YtibeipmcggbbgaaGreatDoorStepsThereRowG46
import Derived.Test.YtibeipmcggbbgaaGreatDoorStepsThereRowG38
import Derived.Test.YtibeipmcggbbgaaGreatDoorStepsThereRowG39
import Derived.Test.YtibeipmcggbbgaaGreatDoorStepsThereRowG05
import Derived.Test.YtibeipmcggbbgaaGreatDoorStepsThereRowG36
import Derived.Test.YtibeipmcggbbgaaGreatDoorStepsThereRowG32
import Derived.Test.YtibeipmcggbbgaaGreatDoorStepsThereRowG33
set_option linter.unusedSimpArgs false
set_option linter.unusedVariables false
open List (getElem?_toArray getElem?_cons_zero getElem?_cons_succ setIfInBounds_toArray set_cons_zero set_cons_succ take_succ_cons take_zero)
namespace Go.Proofs.YtibeipmcggbbgaaGreatDoor
open Go.RowKit Go.Shelf
namespace St
section
variable {I N : Nat} {nm ob : Nat → Nat → Bool} {cmp : Nat → Nat → Int} {S : List Int}
theorem best_some (n : Nat) : ∀ (l : List Nat) (b : Option Nat), (bestOf nm cmp n l b).isSome = (b.isSome || l.any fun i => nm i n)
 | [], b => by simp [bestOf]
 | i :: l, b => by
  show (bestOf nm cmp n l (bestStep nm cmp n b i)).isSome = _
  rw [best_some n l, List.any_cons]
  unfold bestStep
  cases h : nm i n
  ·simp
  ·cases b with
   | none => simp
   | some j => by_cases hc : 0 < cmp i j <;> simp [hc]
end
end St
section
variable {N I0 : Nat} {S : List Int} {L : List Pr}
theorem nmP_symm (i j : Nat) : nmP L i j = nmP L j i := by
 unfold nmP
 cases L[i]? <;> cases L[j]? <;> try rfl
 simp only [decide_eq_decide]
 exact ⟨Eq.symm, Eq.symm⟩
/-- of a step n, is there one of the other kind for which f holds? -/
def otherV (I0 N : Nat) (S : List Int) (n : Nat) (f : Nat → Bool) : Bool := (St.chgs I0 S 0 N).any fun m => (decide (n < I0) != decide (m < I0)) && f m
theorem any_low {f : Nat → Bool} : ∀ l : List Nat, (∀ m ∈ l, m < I0) → (l.any fun m => (false != decide (m < I0)) && f m) = l.any f
 | [], _ => rfl
 | m :: l, h => by
  rw [List.any_cons, List.any_cons, any_low l fun k hk => h k (List.mem_cons_of_mem _ hk), decide_eq_true (h m List.mem_cons_self)]
  rfl
theorem any_low' {f : Nat → Bool} : ∀ l : List Nat, (∀ m ∈ l, m < I0) → (l.any fun m => (true != decide (m < I0)) && f m) = false
 | [], _ => rfl
 | m :: l, h => by
  rw [List.any_cons, any_low' l fun k hk => h k (List.mem_cons_of_mem _ hk), decide_eq_true (h m List.mem_cons_self)]
  rfl
theorem any_high {f : Nat → Bool} : ∀ l : List Nat, (∀ m ∈ l, I0 ≤ m) → (l.any fun m => (true != decide (m < I0)) && f m) = l.any f
 | [], _ => rfl
 | m :: l, h => by
  rw [List.any_cons, List.any_cons, any_high l fun k hk => h k (List.mem_cons_of_mem _ hk), decide_eq_false (Nat.not_lt.2 (h m List.mem_cons_self))]
  rfl
theorem any_high' {f : Nat → Bool} : ∀ l : List Nat, (∀ m ∈ l, I0 ≤ m) → (l.any fun m => (false != decide (m < I0)) && f m) = false
 | [], _ => rfl
 | m :: l, h => by
  rw [List.any_cons, any_high' l fun k hk => h k (List.mem_cons_of_mem _ hk), decide_eq_false (Nat.not_lt.2 (h m List.mem_cons_self))]
  rfl
theorem other_low (hI : I0 ≤ N) {n : Nat} (h : n < I0) (f : Nat → Bool) : otherV I0 N S n f = (St.chgs I0 S I0 N).any f := by
 unfold otherV
 rw [chgs_split (Nat.zero_le I0) hI, List.any_append, decide_eq_true h, any_low' _ fun m hm => (St.mem_chgs.1 hm).1.2, any_high _ fun m hm => (St.mem_chgs.1 hm).1.1, Bool.false_or]
theorem other_high (hI : I0 ≤ N) {n : Nat} (h : ¬ n < I0) (f : Nat → Bool) : otherV I0 N S n f = (St.chgs I0 S 0 I0).any f := by
 unfold otherV
 rw [chgs_split (Nat.zero_le I0) hI, List.any_append, decide_eq_false h, any_low _ fun m hm => (St.mem_chgs.1 hm).1.2, any_high' _ fun m hm => (St.mem_chgs.1 hm).1.1, Bool.or_false]
/-- a Kind, told by whether one of the name, or one that obsoletes, goes or comes -/
def labelOk (k : Int) (name over : Bool) : Bool := if k = 4 ∨ k = 2 ∨ k = 3 ∨ k = 7 then name else if k = 5 ∨ k = 8 then over && !name else if k = 1 ∨ k = 6 then !over && !name else false
theorem label_steps (hI : I0 ≤ L.length) (n : Nat) : labelOk (knd L I0 S n) (otherV I0 L.length S n fun m => nmP L n m) (otherV I0 L.length S n fun m => if n < I0 then obN L m n else obN L n m) = true := by
 unfold knd St.kindK
 by_cases h : n < I0
 ·rw [if_pos h, other_low hI h, other_low hI h]
  simp only [if_pos h]
  unfold St.goesK
  rw [show (fun m => nmP L m n) = fun m => nmP L n m from funext fun m => nmP_symm m n]
  cases h1 : (St.chgs I0 S I0 L.length).any fun m => nmP L n m
  ·cases h2 : (St.chgs I0 S I0 L.length).any fun m => obN L m n
   ·rfl
   ·rfl
  ·rfl
 ·rw [if_neg h, other_high hI h, other_high hI h]
  simp only [if_neg h]
  unfold St.comesK
  have hs := St.best_some (nm := nmP L) (cmp := cmpI2 L) n (St.chgs I0 S 0 I0) none
  rw [show (fun i => nmP L i n) = fun m => nmP L n m from funext fun m => nmP_symm m n] at hs
  rw [show ((none : Option Nat).isSome) = false from rfl, Bool.false_or] at hs
  cases h1 : St.bestOf (nmP L) (cmpI2 L) n (St.chgs I0 S 0 I0) none with
  | none =>
   rw [h1] at hs
   rw [← hs]
   cases h2 : (St.chgs I0 S 0 I0).any fun m => obN L n m
   ·have h3 : ((St.chgs I0 S 0 I0).any (obN L n)) = false := h2
    simp only [h3]
    rfl
   ·have h3 : ((St.chgs I0 S 0 I0).any (obN L n)) = true := h2
    simp only [h3]
    rfl
  | some b =>
   rw [h1] at hs
   rw [← hs]
   dsimp only
   split
   ·rfl
   ·split <;> rfl
end


section
variable {I0 : Nat} {S : List Int} {L : List Pr}
theorem steps_at (hI : I0 ≤ L.length) (hb : badS L.length S = false) {i : Nat} (hi : i < (stepsV L I0 S).length) : ∃ n, n < L.length ∧ (St.chgs I0 S 0 L.length)[i]? = some n ∧ (stepsV L I0 S)[i] = (knd L I0 S n, (n : Int)) := by
 have h := stepsV_eq (S := S) hI hb
 have hi2 : i < (St.chgs I0 S 0 L.length).length := by rw [← stepsV_len hI hb]; exact hi
 refine ⟨(St.chgs I0 S 0 L.length)[i], ?_, List.getElem?_eq_getElem hi2, ?_⟩
 ·have := (St.mem_chgs.1 (List.getElem_mem hi2)).1
  omega
 ·have e : (stepsV L I0 S)[i]? = some (knd L I0 S (St.chgs I0 S 0 L.length)[i], ((St.chgs I0 S 0 L.length)[i] : Int)) := by
   rw [h, List.getElem?_map, List.getElem?_eq_getElem hi2]
   rfl
  rw [List.getElem?_eq_getElem hi] at e
  exact Option.some.inj e
/-- what is so of one of the first steps of the other kind -/
def oth (I0 N : Nat) (S : List Int) (n : Nat) (f : Nat → Bool) (k : Nat) : Bool := ((St.chgs I0 S 0 N).take k).any fun m => (decide (n < I0) != decide (m < I0)) && f m
theorem oth_succ {N n k m : Nat} {f : Nat → Bool} (h : (St.chgs I0 S 0 N)[k]? = some m) : oth I0 N S n f (k + 1) = (oth I0 N S n f k || ((decide (n < I0) != decide (m < I0)) && f m)) := by
 obtain ⟨hk, e⟩ := List.getElem?_eq_some_iff.1 h
 unfold oth
 rw [List.take_succ_eq_append_getElem hk, List.any_append, e]
 simp
theorem oth_all {N n k : Nat} {f : Nat → Bool} (h : k = (St.chgs I0 S 0 N).length) : oth I0 N S n f k = otherV I0 N S n f := by
 unfold oth otherV
 rw [List.take_of_length_le (by omega)]
theorem label_cases {k : Int} {name over : Bool} (h : labelOk k name over = true) : ((k = 4 ∨ k = 2 ∨ k = 3 ∨ k = 7) ∧ name = true) ∨ ((k = 5 ∨ k = 8) ∧ over = true ∧ name = false) ∨ ((k = 1 ∨ k = 6) ∧ over = false ∧ name = false) := by
 unfold labelOk at h
 split at h
 ·exact .inl ⟨by assumption, h⟩
 ·split at h
  ·rw [Bool.and_eq_true, Bool.not_eq_true'] at h
   exact .inr (.inl ⟨by assumption, h⟩)
  ·split at h
   ·rw [Bool.and_eq_true, Bool.not_eq_true', Bool.not_eq_true'] at h
    exact .inr (.inr ⟨by assumption, h⟩)
   ·cases h
end
def la22 (lb lo ln lc ii kk : Nat) (kd1 kd2 : Int) (c1 c2 e9 : Bool) (i : Nat) (v : Value) (W : World) : Prop := match i with
 | 0 => v = .slice (some ⟨lb, lo, none⟩) ln lc
 | 1 => v = .int .i64 (ii : Int)
 | 2 => v = .pointer (some ⟨lb, lo + ii * 2, none⟩)
 | 3 => v = .pointer (some ⟨lb, lo + ii * 2, none⟩)
 | 4 => v = .int .u8 kd1
 | 5 => v = .bool c1
 | 6 => v = .slice (some ⟨lb, lo, none⟩) ln lc
 | 7 => v = .int .i64 (kk : Int)
 | 8 => v = .pointer (some ⟨lb, lo + kk * 2, none⟩)
 | 9 => v = .pointer (some ⟨lb, lo + kk * 2, none⟩)
 | 10 => v = .int .u8 kd2
 | 11 => v = .bool c2
 | 12 => v = .bool e9
 | _ => False
theorem la22_mono (lb lo ln lc ii kk : Nat) (kd1 kd2 : Int) (c1 c2 e9 : Bool) : ∀ i v w w', la22 lb lo ln lc ii kk kd1 kd2 c1 c2 e9 i v w → Below w.heap.size w w' → la22 lb lo ln lc ii kk kd1 kd2 c1 c2 e9 i v w' := by
 intro i v w w' h _
 match i, h with
 | 0, h => exact h
 | 1, h => exact h
 | 2, h => exact h
 | 3, h => exact h
 | 4, h => exact h
 | 5, h => exact h
 | 6, h => exact h
 | 7, h => exact h
 | 8, h => exact h
 | 9, h => exact h
 | 10, h => exact h
 | 11, h => exact h
 | 12, h => exact h
 | (i + 13), h => exact h.elim
def la26F (P lb lo ln lc ii kk n1 m2 : Nat) (ov : Bool) (i : Nat) (v : Value) (W : World) : Prop := match i with
 | 0 => v = .bool false
 | 1 => v = .bool false
 | 2 => v = .pointer (some ⟨P, 0, none⟩)
 | 3 => v = .slice (some ⟨lb, lo, none⟩) ln lc
 | 4 => v = .int .i64 (kk : Int)
 | 5 => v = .pointer (some ⟨lb, lo + kk * 2, none⟩)
 | 6 => v = .pointer (some ⟨lb, lo + kk * 2 + 1, none⟩)
 | 7 => v = .int .i64 (m2 : Int)
 | 8 => v = .slice (some ⟨lb, lo, none⟩) ln lc
 | 9 => v = .int .i64 (ii : Int)
 | 10 => v = .pointer (some ⟨lb, lo + ii * 2, none⟩)
 | 11 => v = .pointer (some ⟨lb, lo + ii * 2 + 1, none⟩)
 | 12 => v = .int .i64 (n1 : Int)
 | 13 => v = .bool ov
 | 14 => v = .bool ov
 | _ => False
theorem la26F_mono (P lb lo ln lc ii kk n1 m2 : Nat) (ov : Bool) : ∀ i v w w', la26F P lb lo ln lc ii kk n1 m2 ov i v w → Below w.heap.size w w' → la26F P lb lo ln lc ii kk n1 m2 ov i v w' := by
 intro i v w w' h _
 match i, h with
 | 0, h => exact h
 | 1, h => exact h
 | 2, h => exact h
 | 3, h => exact h
 | 4, h => exact h
 | 5, h => exact h
 | 6, h => exact h
 | 7, h => exact h
 | 8, h => exact h
 | 9, h => exact h
 | 10, h => exact h
 | 11, h => exact h
 | 12, h => exact h
 | 13, h => exact h
 | 14, h => exact h
 | (i + 15), h => exact h.elim
def la26T (P lb lo ln lc ii kk n1 m2 : Nat) (ov : Bool) (i : Nat) (v : Value) (W : World) : Prop := match i with
 | 0 => v = .bool true
 | 1 => v = .bool true
 | 2 => v = undef
 | 3 => v = undef
 | 4 => v = undef
 | 5 => v = undef
 | 6 => v = undef
 | 7 => v = undef
 | 8 => v = undef
 | 9 => v = undef
 | 10 => v = undef
 | 11 => v = undef
 | 12 => v = undef
 | 13 => v = undef
 | 14 => v = .bool true
 | _ => False
theorem la26T_mono (P lb lo ln lc ii kk n1 m2 : Nat) (ov : Bool) : ∀ i v w w', la26T P lb lo ln lc ii kk n1 m2 ov i v w → Below w.heap.size w w' → la26T P lb lo ln lc ii kk n1 m2 ov i v w' := by
 intro i v w w' h _
 match i, h with
 | 0, h => exact h
 | 1, h => exact h
 | 2, h => exact h
 | 3, h => exact h
 | 4, h => exact h
 | 5, h => exact h
 | 6, h => exact h
 | 7, h => exact h
 | 8, h => exact h
 | 9, h => exact h
 | 10, h => exact h
 | 11, h => exact h
 | 12, h => exact h
 | 13, h => exact h
 | 14, h => exact h
 | (i + 15), h => exact h.elim
def la25F (P lb lo ln lc ii kk n1 m2 : Nat) (ov : Bool) (i : Nat) (v : Value) (W : World) : Prop := match i with
 | 0 => v = .bool false
 | 1 => v = .bool false
 | 2 => v = .pointer (some ⟨P, 0, none⟩)
 | 3 => v = .slice (some ⟨lb, lo, none⟩) ln lc
 | 4 => v = .int .i64 (ii : Int)
 | 5 => v = .pointer (some ⟨lb, lo + ii * 2, none⟩)
 | 6 => v = .pointer (some ⟨lb, lo + ii * 2 + 1, none⟩)
 | 7 => v = .int .i64 (n1 : Int)
 | 8 => v = .slice (some ⟨lb, lo, none⟩) ln lc
 | 9 => v = .int .i64 (kk : Int)
 | 10 => v = .pointer (some ⟨lb, lo + kk * 2, none⟩)
 | 11 => v = .pointer (some ⟨lb, lo + kk * 2 + 1, none⟩)
 | 12 => v = .int .i64 (m2 : Int)
 | 13 => v = .bool ov
 | 14 => v = .bool ov
 | _ => False
theorem la25F_mono (P lb lo ln lc ii kk n1 m2 : Nat) (ov : Bool) : ∀ i v w w', la25F P lb lo ln lc ii kk n1 m2 ov i v w → Below w.heap.size w w' → la25F P lb lo ln lc ii kk n1 m2 ov i v w' := by
 intro i v w w' h _
 match i, h with
 | 0, h => exact h
 | 1, h => exact h
 | 2, h => exact h
 | 3, h => exact h
 | 4, h => exact h
 | 5, h => exact h
 | 6, h => exact h
 | 7, h => exact h
 | 8, h => exact h
 | 9, h => exact h
 | 10, h => exact h
 | 11, h => exact h
 | 12, h => exact h
 | 13, h => exact h
 | 14, h => exact h
 | (i + 15), h => exact h.elim
def la25T (P lb lo ln lc ii kk n1 m2 : Nat) (ov : Bool) (i : Nat) (v : Value) (W : World) : Prop := match i with
 | 0 => v = .bool true
 | 1 => v = .bool true
 | 2 => v = undef
 | 3 => v = undef
 | 4 => v = undef
 | 5 => v = undef
 | 6 => v = undef
 | 7 => v = undef
 | 8 => v = undef
 | 9 => v = undef
 | 10 => v = undef
 | 11 => v = undef
 | 12 => v = undef
 | 13 => v = undef
 | 14 => v = .bool true
 | _ => False
theorem la25T_mono (P lb lo ln lc ii kk n1 m2 : Nat) (ov : Bool) : ∀ i v w w', la25T P lb lo ln lc ii kk n1 m2 ov i v w → Below w.heap.size w w' → la25T P lb lo ln lc ii kk n1 m2 ov i v w' := by
 intro i v w w' h _
 match i, h with
 | 0, h => exact h
 | 1, h => exact h
 | 2, h => exact h
 | 3, h => exact h
 | 4, h => exact h
 | 5, h => exact h
 | 6, h => exact h
 | 7, h => exact h
 | 8, h => exact h
 | 9, h => exact h
 | 10, h => exact h
 | 11, h => exact h
 | 12, h => exact h
 | 13, h => exact h
 | 14, h => exact h
 | (i + 15), h => exact h.elim
set_option maxRecDepth 100000 in
set_option maxHeartbeats 16000000 in
theorem stepsLabels_row (w : World) (hI : PkIn w) (RA : Option Addr) (rc : Nat) (repos : List Rp) (hr : RpRow w.heap.size w RA rc repos) (hrq : ∀ r ∈ repos, ∀ p ∈ r.pk, PkQ w p) (IA : Option Addr) (ic : Nat) (ins : List Pk) (hi : PRow w.heap.size w IA ic ins) (hiq : ∀ p ∈ ins, PkQ w p) (A : Option Addr) (c : Nat) (S : List Int) (hS : Rd encI 1 w.heap.size A c S w ∧ (∀ z ∈ S, (Lit.int .i64 z).wf = true) ∧ S.length ≤ 1000000000000000) : Calls Tryz.prog 7 #[.slice RA repos.length rc, .slice IA ins.length ic, .slice A S.length c] w fun e w' => e = .returned (.bool true) ∧ Below w.heap.size w w' := by
 obtain ⟨hS, hSw, hSl⟩ := hS
 obtain ⟨m, hm9⟩ : ∃ m, S.length = m := ⟨_, rfl⟩
 have HM := Lib.hid hm9
 have hm1 : m ≤ 1000000000000000 := by omega
 obtain ⟨nr, hnr9⟩ : ∃ n, repos.length = n := ⟨_, rfl⟩
 obtain ⟨I0, hI09⟩ : ∃ n, ins.length = n := ⟨_, rfl⟩
 have WD := Lib.hid (show Calls Tryz.prog 18 #[.slice RA nr rc, .slice IA I0 ic, .int .i64 (m : Int)] w (WidePost repos ins (m : Int) w) from hnr9 ▸ hI09 ▸ wide30_any RA rc repos IA ic ins (m : Int) w hr hi)
 have AW := Lib.hid (fun W (hb : Below w.heap.size w W) => awake30 W (hI.below hb))
 have MD := Lib.hid (fun (k : Int) (hn : Narrow repos ins k) W (hb : Below w.heap.size w W) => show Calls Tryz.prog 20 #[.slice RA nr rc, .slice IA I0 ic] W (MadePost repos ins W) from hnr9 ▸ hI09 ▸ made_any (w0 := w) (hI.below hb) (hr.calls hb) (hi.calls hb) hn hrq hiq)
 have HS := Lib.hid hS
 have HSW := Lib.hid hSw
 have HI0 := Lib.hid hI09
 rw [hnr9, hI09, hm9]
 clear hI hr hrq hi hiq hS hSw hSl hm9 hnr9 hI09
 go_enter Tryz.func7, Tryz.ntmps7
 go_wp2_with fail
 go_at_call 18
 refine WD.out.mono ?_
 rintro e w1 ⟨r, rfl, hn, hb1⟩
 have B1 := Lib.hid hb1
 have AW1 := AW.out w1 hb1
 have HNR := Lib.hid hn
 clear hb1 hn WD
 cases r
 rotate_left
 ·go_wp2_with fail
  go_at_call 19
  refine AW1.mono ?_
  rintro e w2 ⟨rfl, hb2⟩
  have B2 := Lib.hid (B1.out.trans (hb2.mono B1.out.size))
  clear hb2 B1 AW MD
  go_wp2_with fail
  go_ret
  exact ⟨rfl, B2.out⟩
 have NW := Lib.hid (HNR.out rfl)
 clear HNR
 have hm2 : m ≤ 200 := by have := NW.out.nk; omega
 go_wp2_with fail
 go_at_call 19
 refine AW1.mono ?_
 rintro e w2 ⟨rfl, hb2⟩
 have B2 := Lib.hid (B1.out.trans (hb2.mono B1.out.size))
 clear hb2 B1 AW AW1
 go_wp2_with fail
 go_at_call 20
 refine (MD.out _ NW.out w2 B2.out).mono ?_
 clear MD
 rintro e w3 ⟨h3, hb3⟩
 have BW3 := Lib.hid (B2.out.trans (hb3.mono B2.out.size))
 clear hb3 B2
 rcases h3 with ⟨P, L, rfl, hp3, hl1, hl2⟩ | ⟨er, her, rfl⟩
 rotate_left
 ·have her2 : ¬ er = 0 := beq_eq_false_iff_ne.1 her
  go_wp2_with fail
  go_ret
  exact ⟨rfl, BW3.out⟩
 rw [HI0.out] at hp3 hl1
 have PL := Lib.hid hp3
 have HL1 := Lib.hid hl1
 have HL2 := Lib.hid hl2
 clear hp3 hl1 hl2
 obtain ⟨N, hN9⟩ : ∃ N, L.length = N := ⟨_, rfl⟩
 have HN := Lib.hid hN9
 have hN1 : N ≤ 100 := by have := HL2.out; omega
 have hIN : I0 ≤ N := by have := HL1.out; omega
 clear hN9 HL2
 have OF := Lib.hid (fun W (hb : Below w3.heap.size w3 W) (A' : Option Addr) (c' : Nat) (S' : List Int) (m' : Nat) (hm : S'.length = m') (hR : Rd encI 1 W.heap.size A' c' S' W) (hl : m' ≤ 1000000) => (show Calls Tryz.prog 22 #[.pointer (some ⟨P, 0, none⟩), .slice A' m' c'] W fun e w' => ∃ A2 c2, e = .returned (.tuple #[.slice A2 (stepsV L I0 S').length c2, .int .i64 (if badS N S' then 5 else 0)]) ∧ Rd encSt 2 w'.heap.size A2 c2 (stepsV L I0 S') w' ∧ Below W.heap.size W w' from by
  have h := stof_any (PL.out.then hb) A' c' S' hR (by omega) (by have := HN.out; omega) HL1.out
  rw [hm, HN.out] at h
  refine h.mono ?_
  rintro e w' ⟨v, rfl, ho, hb'⟩
  obtain ⟨A2, c2, rfl, hrd⟩ := ho.rd encSt_len
  exact ⟨A2, c2, rfl, hrd, hb'⟩))
 go_wp2_with fail
 go_at_call 22
 refine (OF.out w3 (Below.refl _ _) A c S m HM.out ((HS.out.below BW3.out).more BW3.out.size) (by omega)).mono ?_
 rintro e w4 ⟨LA, lc, rfl, hl4, hb4⟩
 have BW4 := Lib.hid (BW3.out.trans (hb4.mono BW3.out.size))
 have B34 := Lib.hid hb4
 have LR := Lib.hid hl4
 clear hb4 hl4
 obtain ⟨ln, hln⟩ : ∃ ln, (stepsV L I0 S).length = ln := ⟨_, rfl⟩
 have HLN := Lib.hid hln
 rw [hln]
 clear hln
 cases hb : badS N S
 rotate_left
 ·clear hb
  go_wp2_with fail
  go_ret
  exact ⟨rfl, BW4.out⟩
 have hb9 := Lib.hid hb
 clear hb
 have HBL := Lib.hid (show badS L.length S = false from HN.out.symm ▸ hb9.out)
 have hln1 : ln ≤ 100 := by have := stepsV_len HL1.out HBL.out; have h2 := chgs_le (I0 := I0) (S := S) L.length; have := HN.out; have := HLN.out; omega
 have PK := Lib.hid (fun (n : Nat) (hn : n < L.length) W (hb : Below w3.heap.size w3 W) => poolpkg_any (PL.out.then hb) hn (by have := HN.out; omega))
 have PO := Lib.hid (fun (n k : Nat) W (hb : Below w3.heap.size w3 W) => (show Calls Tryz.prog 37 #[.pointer (some ⟨P, 0, none⟩), .int .i64 (n : Int), .int .i64 (k : Int)] W fun e w' => e = .returned (.bool (obN L n k)) ∧ Below W.heap.size W w' from poolobs_any (PL.out.then hb) (n : Int) (k : Int) (by have := HN.out; omega)))
 have KC := Lib.hid (fun (n : Nat) W => show Calls Tryz.prog 28 #[.int .u8 (knd L I0 S n)] W fun e w' => e = .returned (.bool (!decide (n < I0))) ∧ Below W.heap.size W w' from by have h := stcomes_any (knd L I0 S n) W; rw [knd_comes] at h; exact h)
 go_wp2_with fail
 go_loopw [11] (fun iv wr => ∃ ii : Nat, ii ≤ ln ∧ iv = .int .i64 (ii : Int) ∧ Below w4.heap.size w4 wr) (fun iv _ => ln - (intOf iv).toNat)
 case atStart => exact ⟨0, by omega, rfl, Below.refl _ _⟩
 case round =>
  obtain ⟨ii, hii, rfl, hB⟩ := hrel
  rename World => wr
  have B4R := Lib.hid hB
  have BR := Lib.hid (B34.out.trans (hB.mono B34.out.size))
  clear hB
  by_cases hlt : ii < ln
  ·have hil : ii < (stepsV L I0 S).length := by have := HLN.out; omega
   obtain ⟨n1, hn1, hch1, hD1⟩ := steps_at HL1.out HBL.out hil
   have LRR := (LR.out.below B4R.out).more B4R.out.size
   obtain ⟨lb, lo, hLA, hlb, l0, l1⟩ := LRR.st_at hil
   rw [hD1] at l0 l1
   have HD1 := Lib.hid hD1
   subst hLA
   have i0 : (0 : Int) ≤ (ii : Int) := by omega
   have i1 : (ii : Int) < (ln : Int) := by omega
   have L0 := Lib.hid l0
   have L1 := Lib.hid l1
   have HLB := Lib.hid hlb
   have HN1 := Lib.hid hn1
   have PK1 := Lib.hid (PK.out n1 hn1 wr BR.out)
   clear hD1 hch1 LRR hlb
   go_wp2_with fail
   go_at_call 36
   refine PK1.out.mono ?_
   rintro e w5 ⟨q1, rfl, ha1, hb5⟩
   have HA1 := Lib.hid ha1
   have B45 := Lib.hid (B4R.out.trans (hb5.mono B4R.out.size))
   clear ha1 hb5 PK1 l0 l1
   unfold Pk.val
   go_wp2_with fail
   obtain ⟨w6, hw6⟩ : ∃ w6, w6 = w5.alloc (.cells #[.string q1.name, .int .i64 q1.epoch, .string q1.ver, .string q1.rel, .int .u8 q1.arch, .string q1.vendor, .slice q1.provA q1.prov.length q1.provC, .slice q1.reqA q1.req.length q1.reqC, .slice q1.conA q1.con.length q1.conC, .slice q1.obsA q1.obs.length q1.obsC, .slice q1.rcmA q1.rcm.length q1.rcmC, .slice q1.supA q1.sup.length q1.supC, .slice q1.sugA q1.sug.length q1.sugC, .slice q1.enhA q1.enh.length q1.enhC, .slice q1.filesA q1.files.length q1.filesC] 28) := ⟨_, rfl⟩
   rw [← hw6]
   have X0 := Lib.hid (show w6.cell? ⟨w5.heap.size, 0, none⟩ = some (.string q1.name) by rw [hw6]; simp [go_sem])
   have B46 := Lib.hid (show Below w4.heap.size w4 w6 by rw [hw6]; exact B45.out.alloc B45.out.size _)
   have XB := Lib.hid (show w5.heap.size < w6.heap.size by rw [hw6]; simp)
   generalize w5.heap.size = xb at *
   clear hw6 B45 L0 L1 HLB B4R BR
   have B36 := Lib.hid (B34.out.trans (B46.out.mono B34.out.size))
   have LR6 := Lib.hid ((LR.out.below B46.out).more B46.out.size)
   obtain ⟨nmf, hnmf⟩ : ∃ f : Nat → Bool, f = fun m => nmP L n1 m := ⟨_, rfl⟩
   obtain ⟨obf, hobf⟩ : ∃ f : Nat → Bool, f = fun m => if n1 < I0 then obN L m n1 else obN L n1 m := ⟨_, rfl⟩
   have HNF := Lib.hid hnmf
   have HOF := Lib.hid hobf
   clear hnmf hobf
   have NMQ := Lib.hid (fun (m : Nat) (hm : m < L.length) (y : Pk) (hy : Alike L[m].pk y) => show nmf m = decide (q1.name = y.name) from by rw [HNF.out]; show nmP L n1 m = _; unfold nmP; rw [List.getElem?_eq_getElem hm, List.getElem?_eq_getElem HN1.out]; show decide (L[n1].pk.name = L[m].pk.name) = _; rw [hy.name, HA1.out.name]; first | done | rfl | congr)
   go_loopw [14, 15, 16] (fun nv ov kv wx => ∃ kk : Nat, kk ≤ ln ∧ kv = .int .i64 (kk : Int) ∧ nv = .bool (oth I0 L.length S n1 nmf kk) ∧ ov = .bool (oth I0 L.length S n1 obf kk) ∧ Below w6.heap.size w6 wx) (fun _ _ kv _ => ln - (intOf kv).toNat)
   case atStart => exact ⟨0, by omega, rfl, rfl, rfl, Below.refl _ _⟩
   case round =>
    obtain ⟨kk, hkk, rfl, rfl, rfl, hB⟩ := hrel
    rename World => wx
    have BX := Lib.hid hB
    obtain ⟨nb, hnb⟩ : ∃ nb, oth I0 L.length S n1 nmf kk = nb := ⟨_, rfl⟩
    obtain ⟨ob, hob⟩ : ∃ ob, oth I0 L.length S n1 obf kk = ob := ⟨_, rfl⟩
    have HNB := Lib.hid hnb
    have HOB := Lib.hid hob
    rw [hnb, hob]
    have LRX := Lib.hid ((LR6.out.below hB).more hB.size)
    have B3X := Lib.hid (B36.out.trans (hB.mono B36.out.size))
    clear hB hnb hob
    by_cases hlt2 : kk < ln
    ·have hkl : kk < (stepsV L I0 S).length := by have := HLN.out; omega
     obtain ⟨m2, hm2', hch2, hD2⟩ := steps_at HL1.out HBL.out hkl
     have HNS := Lib.hid (oth_succ (n := n1) (f := nmf) hch2)
     have HOS := Lib.hid (oth_succ (n := n1) (f := obf) hch2)
     rw [HNB.out] at HNS
     rw [HOB.out] at HOS
     obtain ⟨b1, o1, hA1', hlb1, l0, l1⟩ := LRX.out.st_at hil
     cases hA1'
     obtain ⟨b2, o2, hA2', hlb2, k0, k1⟩ := LRX.out.st_at hkl
     cases hA2'
     rw [hD2] at k0 k1
     have L0 := Lib.hid (show wx.cell? ⟨lb, lo + ii * 2, none⟩ = some (.int .u8 (knd L I0 S n1)) from by rw [l0, HD1.out])
     have L1 := Lib.hid (show wx.cell? ⟨lb, lo + ii * 2 + 1, none⟩ = some (.int .i64 (n1 : Int)) from by rw [l1, HD1.out])
     have K0 := Lib.hid k0
     have K1 := Lib.hid k1
     have HLB := Lib.hid hlb1
     have HM2 := Lib.hid hm2'
     have PK2 := Lib.hid (PK.out m2 hm2' wx B3X.out)
     have j0 : (0 : Int) ≤ (kk : Int) := by omega
     have j1 : (kk : Int) < (ln : Int) := by omega
     have J0 := Lib.hid j0
     have J1 := Lib.hid j1
     have II0 := Lib.hid i0
     have II1 := Lib.hid i1
     clear hD2 hch2 hlb1 hlb2 l0 l1 k0
     go_wp2_with fail
     go_at_call 36
     refine PK2.out.mono ?_
     rintro e w7 ⟨q2, rfl, ha2, hb7⟩
     have HA2 := Lib.hid ha2
     have BX7 := Lib.hid hb7
     clear ha2 hb7 PK2 k1
     unfold Pk.val
     go_wp2_with fail
     obtain ⟨w8, hw8⟩ : ∃ w8, w8 = w7.alloc (.cells #[.string q2.name, .int .i64 q2.epoch, .string q2.ver, .string q2.rel, .int .u8 q2.arch, .string q2.vendor, .slice q2.provA q2.prov.length q2.provC, .slice q2.reqA q2.req.length q2.reqC, .slice q2.conA q2.con.length q2.conC, .slice q2.obsA q2.obs.length q2.obsC, .slice q2.rcmA q2.rcm.length q2.rcmC, .slice q2.supA q2.sup.length q2.supC, .slice q2.sugA q2.sug.length q2.sugC, .slice q2.enhA q2.enh.length q2.enhC, .slice q2.filesA q2.files.length q2.filesC] 28) := ⟨_, rfl⟩
     rw [← hw8]
     have Y0 := Lib.hid (show w8.cell? ⟨w7.heap.size, 0, none⟩ = some (.string q2.name) by rw [hw8]; simp [go_sem])
     have BX8 := Lib.hid (show Below wx.heap.size wx w8 by rw [hw8]; exact BX7.out.alloc BX7.out.size _)
     have YB := Lib.hid (show w7.heap.size < w8.heap.size by rw [hw8]; simp)
     generalize w7.heap.size = yb at *
     clear hw8 BX7
     have HNE := Lib.hid (NMQ.out m2 HM2.out q2 HA2.out)
     have X08 := Lib.hid ((BX8.out.cell (p := ⟨xb, 0, none⟩) (by have := XB.out; have := BX.out.size; show xb < wx.heap.size; omega)).trans ((BX.out.cell (p := ⟨xb, 0, none⟩) XB.out).trans X0.out))
     have L08 := Lib.hid ((BX8.out.cell (p := ⟨lb, lo + ii * 2, none⟩) HLB.out).trans L0.out)
     have L18 := Lib.hid ((BX8.out.cell (p := ⟨lb, lo + ii * 2 + 1, none⟩) HLB.out).trans L1.out)
     have K08 := Lib.hid ((BX8.out.cell (p := ⟨lb, lo + kk * 2, none⟩) HLB.out).trans K0.out)
     have K18 := Lib.hid ((BX8.out.cell (p := ⟨lb, lo + kk * 2 + 1, none⟩) HLB.out).trans K1.out)
     have HLB8 := Lib.hid (show lb < w8.heap.size from Nat.lt_of_lt_of_le HLB.out BX8.out.size)
     have XB8 := Lib.hid (World.block_lt_of_cell? w8 _ X08.out)
     have B68 := Lib.hid (BX.out.trans (BX8.out.mono BX.out.size))
     have B38 := Lib.hid (B3X.out.trans (BX8.out.mono B3X.out.size))
     clear L0 L1 K0 K1 HLB LRX BX BX8 B3X j0 j1 i0 i1
     obtain ⟨c1, hc1⟩ : ∃ c1, (!decide (n1 < I0)) = c1 := ⟨_, rfl⟩
     obtain ⟨c2, hc2⟩ : ∃ c2, (!decide (m2 < I0)) = c2 := ⟨_, rfl⟩
     have KC1 := Lib.hid (fun W => hc1 ▸ KC.out n1 W)
     have KC2 := Lib.hid (fun W => hc2 ▸ KC.out m2 W)
     have HC1 := Lib.hid hc1
     have HC2 := Lib.hid hc2
     clear hc1 hc2
     obtain ⟨kd1, hkd1⟩ : ∃ k, knd L I0 S n1 = k := ⟨_, rfl⟩
     obtain ⟨kd2, hkd2⟩ : ∃ k, knd L I0 S m2 = k := ⟨_, rfl⟩
     rw [hkd1] at L08 KC1
     rw [hkd2] at K08 KC2
     clear hkd1 hkd2
     obtain ⟨e9, he9⟩ : ∃ e9, (c1 == c2) = e9 := ⟨_, rfl⟩
     have HE9 := Lib.hid he9
     clear he9
     go_wp2_with fail
     have HLBQ := HLB8
     have L0Q := L08
     have L1Q := L18
     have K0Q := K08
     have K1Q := K18
     refine wp_region_tail (PP := la22 lb lo ln lc ii kk kd1 kd2 c1 c2 e9) 13 rfl (by kernel_rfl) (by kernel_rfl) (by decide) (by decide) (la22_mono lb lo ln lc ii kk kd1 kd2 c1 c2 e9) (fun ii => match ii with | 0 => u82 | 1 => u83 | 2 => u84 | 3 => u85 | 4 => u86 | 5 => u87 | 6 => u88 | 7 => u89 | 8 => u90 | 9 => u91 | 10 => u92 | 11 => u93 | 12 => u94 | _ => undef) (by simp [fillV, put_someT, setIfInBounds_toArray, set_cons_zero, set_cons_succ]) ?_ ?_
     ·intro i o vs W hi ho he hBW K hK
      simp only [take_succ_cons, take_zero, fillV, put_someT, setIfInBounds_toArray, set_cons_zero, set_cons_succ] at hK ⊢
      have L0W := Lib.hid ((hBW.cell (p := ⟨lb, lo + ii * 2, none⟩) HLBQ.out).trans L0Q.out)
      have L1W := Lib.hid ((hBW.cell (p := ⟨lb, lo + ii * 2 + 1, none⟩) HLBQ.out).trans L1Q.out)
      have K0W := Lib.hid ((hBW.cell (p := ⟨lb, lo + kk * 2, none⟩) HLBQ.out).trans K0Q.out)
      have K1W := Lib.hid ((hBW.cell (p := ⟨lb, lo + kk * 2 + 1, none⟩) HLBQ.out).trans K1Q.out)
      obtain rfl | rfl | rfl | rfl | rfl | rfl | rfl | rfl | rfl | rfl | rfl | rfl | rfl := (show i = 0 ∨ i = 1 ∨ i = 2 ∨ i = 3 ∨ i = 4 ∨ i = 5 ∨ i = 6 ∨ i = 7 ∨ i = 8 ∨ i = 9 ∨ i = 10 ∨ i = 11 ∨ i = 12 by exact (by have : i < 13 := hi; omega))
      ·simp only [getElem?_toArray, getElem?_cons_zero, getElem?_cons_succ, Option.some.injEq] at ho
       subst ho
       rw [if_pos (by rfl)]
       simp only [put_someT, setIfInBounds_toArray, set_cons_zero, set_cons_succ] at hK
       have HK := Lib.hid hK
       clear hK he hi hBW
       go_simp
       exact HK.out _ _ (by first | rfl | simp [la22]) (Below.refl _ _)
      ·simp only [getElem?_toArray, getElem?_cons_zero, getElem?_cons_succ, Option.some.injEq] at ho
       subst ho
       rw [if_pos (by rfl)]
       simp only [put_someT, setIfInBounds_toArray, set_cons_zero, set_cons_succ] at hK
       have HK := Lib.hid hK
       clear hK he hi hBW
       go_simp
       exact HK.out _ _ (by first | rfl | simp [la22]) (Below.refl _ _)
      ·simp only [getElem?_toArray, getElem?_cons_zero, getElem?_cons_succ, Option.some.injEq] at ho
       subst ho
       have e0 : vs 0 = .slice (some ⟨lb, lo, none⟩) ln lc := (he ⟨0, .data⟩ (by simp) rfl : la22 lb lo ln lc ii kk kd1 kd2 c1 c2 e9 0 (vs 0) W)
       rw [e0] at hK ⊢
       have e1 : vs 1 = .int .i64 (ii : Int) := (he ⟨1, .data⟩ (by simp) rfl : la22 lb lo ln lc ii kk kd1 kd2 c1 c2 e9 1 (vs 1) W)
       rw [e1] at hK ⊢
       rw [if_pos (by rfl)]
       simp only [put_someT, setIfInBounds_toArray, set_cons_zero, set_cons_succ] at hK
       have HK := Lib.hid hK
       clear hK he hi hBW
       have i0 := II0.out
       have i1 := II1.out
       go_simp
       exact HK.out _ _ (by simp [la22]) (Below.refl _ _)
      ·simp only [getElem?_toArray, getElem?_cons_zero, getElem?_cons_succ, Option.some.injEq] at ho
       subst ho
       have e2 : vs 2 = .pointer (some ⟨lb, lo + ii * 2, none⟩) := (he ⟨2, .data⟩ (by simp) rfl : la22 lb lo ln lc ii kk kd1 kd2 c1 c2 e9 2 (vs 2) W)
       rw [e2] at hK ⊢
       rw [if_pos (by rfl)]
       simp only [put_someT, setIfInBounds_toArray, set_cons_zero, set_cons_succ] at hK
       have HK := Lib.hid hK
       clear hK he hi hBW
       go_simp
       exact HK.out _ _ (by first | rfl | simp [la22]) (Below.refl _ _)
      ·simp only [getElem?_toArray, getElem?_cons_zero, getElem?_cons_succ, Option.some.injEq] at ho
       subst ho
       have e3 : vs 3 = .pointer (some ⟨lb, lo + ii * 2, none⟩) := (he ⟨3, .data⟩ (by simp) rfl : la22 lb lo ln lc ii kk kd1 kd2 c1 c2 e9 3 (vs 3) W)
       rw [e3] at hK ⊢
       rw [if_pos (by rfl)]
       simp only [put_someT, setIfInBounds_toArray, set_cons_zero, set_cons_succ] at hK
       have HK := Lib.hid hK
       clear hK he hi hBW
       have cc := L0W.out
       go_simp
       exact HK.out _ _ rfl (Below.refl _ _)
      ·simp only [getElem?_toArray, getElem?_cons_zero, getElem?_cons_succ, Option.some.injEq] at ho
       subst ho
       have e4 : vs 4 = .int .u8 kd1 := (he ⟨4, .data⟩ (by simp) rfl : la22 lb lo ln lc ii kk kd1 kd2 c1 c2 e9 4 (vs 4) W)
       rw [e4] at hK ⊢
       rw [if_pos (by rfl)]
       simp only [put_someT, setIfInBounds_toArray, set_cons_zero, set_cons_succ] at hK
       have HK := Lib.hid hK
       clear hK he hi hBW
       have CC := KC1.out W
       go_simp
       go_at_call 28
       refine CC.mono ?_
       rintro en wz ⟨rfl, h⟩
       go_simp
       exact HK.out _ _ rfl h
      ·simp only [getElem?_toArray, getElem?_cons_zero, getElem?_cons_succ, Option.some.injEq] at ho
       subst ho
       rw [if_pos (by rfl)]
       simp only [put_someT, setIfInBounds_toArray, set_cons_zero, set_cons_succ] at hK
       have HK := Lib.hid hK
       clear hK he hi hBW
       go_simp
       exact HK.out _ _ (by first | rfl | simp [la22]) (Below.refl _ _)
      ·simp only [getElem?_toArray, getElem?_cons_zero, getElem?_cons_succ, Option.some.injEq] at ho
       subst ho
       rw [if_pos (by rfl)]
       simp only [put_someT, setIfInBounds_toArray, set_cons_zero, set_cons_succ] at hK
       have HK := Lib.hid hK
       clear hK he hi hBW
       go_simp
       exact HK.out _ _ (by first | rfl | simp [la22]) (Below.refl _ _)
      ·simp only [getElem?_toArray, getElem?_cons_zero, getElem?_cons_succ, Option.some.injEq] at ho
       subst ho
       have e6 : vs 6 = .slice (some ⟨lb, lo, none⟩) ln lc := (he ⟨6, .data⟩ (by simp) rfl : la22 lb lo ln lc ii kk kd1 kd2 c1 c2 e9 6 (vs 6) W)
       rw [e6] at hK ⊢
       have e7 : vs 7 = .int .i64 (kk : Int) := (he ⟨7, .data⟩ (by simp) rfl : la22 lb lo ln lc ii kk kd1 kd2 c1 c2 e9 7 (vs 7) W)
       rw [e7] at hK ⊢
       rw [if_pos (by rfl)]
       simp only [put_someT, setIfInBounds_toArray, set_cons_zero, set_cons_succ] at hK
       have HK := Lib.hid hK
       clear hK he hi hBW
       have i0 := J0.out
       have i1 := J1.out
       go_simp
       exact HK.out _ _ (by simp [la22]) (Below.refl _ _)
      ·simp only [getElem?_toArray, getElem?_cons_zero, getElem?_cons_succ, Option.some.injEq] at ho
       subst ho
       have e8 : vs 8 = .pointer (some ⟨lb, lo + kk * 2, none⟩) := (he ⟨8, .data⟩ (by simp) rfl : la22 lb lo ln lc ii kk kd1 kd2 c1 c2 e9 8 (vs 8) W)
       rw [e8] at hK ⊢
       rw [if_pos (by rfl)]
       simp only [put_someT, setIfInBounds_toArray, set_cons_zero, set_cons_succ] at hK
       have HK := Lib.hid hK
       clear hK he hi hBW
       go_simp
       exact HK.out _ _ (by first | rfl | simp [la22]) (Below.refl _ _)
      ·simp only [getElem?_toArray, getElem?_cons_zero, getElem?_cons_succ, Option.some.injEq] at ho
       subst ho
       have e9 : vs 9 = .pointer (some ⟨lb, lo + kk * 2, none⟩) := (he ⟨9, .data⟩ (by simp) rfl : la22 lb lo ln lc ii kk kd1 kd2 c1 c2 e9 9 (vs 9) W)
       rw [e9] at hK ⊢
       rw [if_pos (by rfl)]
       simp only [put_someT, setIfInBounds_toArray, set_cons_zero, set_cons_succ] at hK
       have HK := Lib.hid hK
       clear hK he hi hBW
       have cc := K0W.out
       go_simp
       exact HK.out _ _ rfl (Below.refl _ _)
      ·simp only [getElem?_toArray, getElem?_cons_zero, getElem?_cons_succ, Option.some.injEq] at ho
       subst ho
       have e10 : vs 10 = .int .u8 kd2 := (he ⟨10, .data⟩ (by simp) rfl : la22 lb lo ln lc ii kk kd1 kd2 c1 c2 e9 10 (vs 10) W)
       rw [e10] at hK ⊢
       rw [if_pos (by rfl)]
       simp only [put_someT, setIfInBounds_toArray, set_cons_zero, set_cons_succ] at hK
       have HK := Lib.hid hK
       clear hK he hi hBW
       have CC := KC2.out W
       go_simp
       go_at_call 28
       refine CC.mono ?_
       rintro en wz ⟨rfl, h⟩
       go_simp
       exact HK.out _ _ rfl h
      ·simp only [getElem?_toArray, getElem?_cons_zero, getElem?_cons_succ, Option.some.injEq] at ho
       subst ho
       have e5 : vs 5 = .bool c1 := (he ⟨5, .data⟩ (by simp) rfl : la22 lb lo ln lc ii kk kd1 kd2 c1 c2 e9 5 (vs 5) W)
       rw [e5] at hK ⊢
       have e11 : vs 11 = .bool c2 := (he ⟨11, .data⟩ (by simp) rfl : la22 lb lo ln lc ii kk kd1 kd2 c1 c2 e9 11 (vs 11) W)
       rw [e11] at hK ⊢
       rw [if_pos (by rfl)]
       simp only [put_someT, setIfInBounds_toArray, set_cons_zero, set_cons_succ] at hK
       have HK := Lib.hid hK
       clear hK he hi hBW
       have h9 := HE9.out
       go_simp
       exact HK.out _ _ (by simp [la22, ← h9]) (Below.refl _ _)
     ·intro vs W9 hall hBW
      have e12 : vs 12 = .bool e9 := (hall 12 (by decide) : la22 lb lo ln lc ii kk kd1 kd2 c1 c2 e9 12 (vs 12) W9)
      simp only [take_succ_cons, take_zero, List.drop_succ_cons, List.drop_zero, fillV, put_someT, put_noneC, setIfInBounds_toArray, set_cons_zero, set_cons_succ]
      rw [e12]
      generalize vs 0 = gq0
      generalize vs 1 = gq1
      generalize vs 2 = gq2
      generalize vs 3 = gq3
      generalize vs 4 = gq4
      generalize vs 5 = gq5
      generalize vs 6 = gq6
      generalize vs 7 = gq7
      generalize vs 8 = gq8
      generalize vs 9 = gq9
      generalize vs 10 = gq10
      generalize vs 11 = gq11
      have X09 := Lib.hid ((hBW.cell (p := ⟨xb, 0, none⟩) XB8.out).trans X08.out)
      have Y09 := Lib.hid ((hBW.cell (p := ⟨yb, 0, none⟩) YB.out).trans Y0.out)
      have L09 := Lib.hid ((hBW.cell (p := ⟨lb, lo + ii * 2, none⟩) HLBQ.out).trans L0Q.out)
      have L19 := Lib.hid ((hBW.cell (p := ⟨lb, lo + ii * 2 + 1, none⟩) HLBQ.out).trans L1Q.out)
      have K09 := Lib.hid ((hBW.cell (p := ⟨lb, lo + kk * 2, none⟩) HLBQ.out).trans K0Q.out)
      have K19 := Lib.hid ((hBW.cell (p := ⟨lb, lo + kk * 2 + 1, none⟩) HLBQ.out).trans K1Q.out)
      have HLB9 := Lib.hid (Nat.lt_of_lt_of_le HLBQ.out hBW.size)
      have B69 := Lib.hid (B68.out.trans (hBW.mono B68.out.size))
      have B39 := Lib.hid (B38.out.trans (hBW.mono B38.out.size))
      clear hall hBW e12 HLBQ L0Q L1Q K0Q K1Q L08 L18 K08 K18 X08 Y0 B68 B38 HLB8 XB8 YB KC2
      cases e9
      rotate_left
      ·have HDN := Lib.hid (show (decide (n1 < I0) != decide (m2 < I0)) = false from by have h1 := HC1.out; have h2 := HC2.out; have h3 := HE9.out; revert h3; rw [← h1, ← h2]; cases decide (n1 < I0) <;> cases decide (m2 < I0) <;> decide)
       have HN2 := Lib.hid (show oth I0 L.length S n1 nmf (kk + 1) = nb from by rw [HNS.out, HDN.out]; simp)
       have HO2 := Lib.hid (show oth I0 L.length S n1 obf (kk + 1) = ob from by rw [HOS.out, HDN.out]; simp)
       have j1 := J1.out
       go_wp2_with fail
       go_roundw
       case rel => exact ⟨kk + 1, by omega, by go_num, by rw [HN2.out], by rw [HO2.out], B69.out⟩
       case measure => simp [intOf]; omega
      have HDY := Lib.hid (show (decide (n1 < I0) != decide (m2 < I0)) = true from by have h1 := HC1.out; have h2 := HC2.out; have h3 := HE9.out; revert h3; rw [← h1, ← h2]; cases decide (n1 < I0) <;> cases decide (m2 < I0) <;> decide)
      have HN2 := Lib.hid (show oth I0 L.length S n1 nmf (kk + 1) = (nb || nmf m2) from by rw [HNS.out, HDY.out]; simp)
      have HO2 := Lib.hid (show oth I0 L.length S n1 obf (kk + 1) = (ob || obf m2) from by rw [HOS.out, HDY.out]; simp)
      have i0 := II0.out
      have i1 := II1.out
      have l09 := L09.out
      have x09 := X09.out
      have y09 := Y09.out
      obtain ⟨nr, hnr⟩ : ∃ nr, (nb || nmf m2) = nr := ⟨_, rfl⟩
      rw [hnr] at HN2
      have HRR := Lib.hid hnr
      clear hnr
      go_upto_region 23 with fail
      go_cut [14] from 64 to 138 (fun nv W' => nv = .bool nr ∧ W' = W9)
      case first =>
       cases nb
       ·by_cases hnm : q1.name = q2.name
        ·obtain rfl : true = nr := by rw [← HRR.out, HNE.out, decide_eq_true hnm]; rfl
         rw [hnm] at x09
         clear hnm
         go_wp2_with fail
         go_meet
         exact ⟨rfl, rfl⟩
        ·obtain rfl : false = nr := by rw [← HRR.out, HNE.out, decide_eq_false hnm]; rfl
         have hx2 : (q1.name.toList == q2.name.toList) = false := beq_eq_false_iff_ne.2 fun h => hnm (toList_inj h)
         have hx3 : ¬ q1.name.toList = q2.name.toList := fun h => hnm (toList_inj h)
         go_wp2_with fail
         go_meet
         exact ⟨rfl, rfl⟩
       ·obtain rfl : true = nr := by rw [← HRR.out]; rfl
        go_wp2_with fail
        go_meet
        exact ⟨rfl, rfl⟩
      case rest =>
       obtain ⟨rfl, rfl⟩ := hcut
       have HNR := HN2
       clear HN2 HRR
       go_wp2_with fail
       go_at_call 28
       refine (KC1.out _).mono ?_
       rintro e wa ⟨rfl, hba⟩
       have L0Q := Lib.hid ((hba.cell (p := ⟨lb, lo + ii * 2, none⟩) HLB9.out).trans L09.out)
       have L1Q := Lib.hid ((hba.cell (p := ⟨lb, lo + ii * 2 + 1, none⟩) HLB9.out).trans L19.out)
       have K0Q := Lib.hid ((hba.cell (p := ⟨lb, lo + kk * 2, none⟩) HLB9.out).trans K09.out)
       have K1Q := Lib.hid ((hba.cell (p := ⟨lb, lo + kk * 2 + 1, none⟩) HLB9.out).trans K19.out)
       have HLBQ := Lib.hid (Nat.lt_of_lt_of_le HLB9.out hba.size)
       have B6a := Lib.hid (B69.out.trans (hba.mono B69.out.size))
       have B3a := Lib.hid (B39.out.trans (hba.mono B39.out.size))
       clear hba L09 L19 K09 K19 HLB9 B69 B39 l09 x09 y09 X09 Y09 i0 i1
       obtain ⟨ov, hov⟩ : ∃ ov, obf m2 = ov := ⟨_, rfl⟩
       rw [hov] at HO2
       cases c1
       ·have hcn : n1 < I0 := by have := HC1.out; simpa using this
        have OBV := Lib.hid (show obN L m2 n1 = ov from by rw [← hov, HOF.out]; show _ = if n1 < I0 then obN L m2 n1 else obN L n1 m2; rw [if_pos hcn])
        have POC := Lib.hid (fun W hb => OBV.out ▸ PO.out m2 n1 W hb)
        clear hcn hov
        cases ob
        ·as_aux_lemma =>
          go_wp2_with fail
          refine wp_region_tail (PP := la26F P lb lo ln lc ii kk n1 m2 ov) 15 rfl (by kernel_rfl) (by kernel_rfl) (by decide) (by decide) (la26F_mono P lb lo ln lc ii kk n1 m2 ov) (fun ii => match ii with | 0 => u124 | 1 => u125 | 2 => u126 | 3 => u127 | 4 => u128 | 5 => u129 | 6 => u130 | 7 => u131 | 8 => u132 | 9 => u133 | 10 => u134 | 11 => u135 | 12 => u136 | 13 => u137 | 14 => u138 | _ => undef) (by simp [fillV, put_someT, setIfInBounds_toArray, set_cons_zero, set_cons_succ]) ?_ ?_
          ·intro i o vs W hi ho he hBW K hK
           simp only [take_succ_cons, take_zero, fillV, put_someT, setIfInBounds_toArray, set_cons_zero, set_cons_succ] at hK ⊢
           have L0W := Lib.hid ((hBW.cell (p := ⟨lb, lo + ii * 2, none⟩) HLBQ.out).trans L0Q.out)
           have L1W := Lib.hid ((hBW.cell (p := ⟨lb, lo + ii * 2 + 1, none⟩) HLBQ.out).trans L1Q.out)
           have K0W := Lib.hid ((hBW.cell (p := ⟨lb, lo + kk * 2, none⟩) HLBQ.out).trans K0Q.out)
           have K1W := Lib.hid ((hBW.cell (p := ⟨lb, lo + kk * 2 + 1, none⟩) HLBQ.out).trans K1Q.out)
           have POW := Lib.hid (POC.out W (B3a.out.trans (hBW.mono B3a.out.size)))
           obtain rfl | rfl | rfl | rfl | rfl | rfl | rfl | rfl | rfl | rfl | rfl | rfl | rfl | rfl | rfl := (show i = 0 ∨ i = 1 ∨ i = 2 ∨ i = 3 ∨ i = 4 ∨ i = 5 ∨ i = 6 ∨ i = 7 ∨ i = 8 ∨ i = 9 ∨ i = 10 ∨ i = 11 ∨ i = 12 ∨ i = 13 ∨ i = 14 by exact (by have : i < 15 := hi; omega))
           ·simp only [getElem?_toArray, getElem?_cons_zero, getElem?_cons_succ, Option.some.injEq] at ho
            subst ho
            rw [if_pos (by rfl)]
            simp only [put_someT, setIfInBounds_toArray, set_cons_zero, set_cons_succ] at hK
            have HK := Lib.hid hK
            clear hK he hi hBW
            go_simp
            exact HK.out _ _ (by first | rfl | simp [la26F]) (Below.refl _ _)
           ·simp only [getElem?_toArray, getElem?_cons_zero, getElem?_cons_succ, Option.some.injEq] at ho
            subst ho
            have e0 : vs 0 = .bool false := (he ⟨0, .data⟩ (by simp) rfl : la26F P lb lo ln lc ii kk n1 m2 ov 0 (vs 0) W)
            rw [e0] at hK ⊢
            rw [if_pos (by rfl)]
            simp only [put_someT, setIfInBounds_toArray, set_cons_zero, set_cons_succ] at hK
            have HK := Lib.hid hK
            clear hK he hi hBW
            go_simp
            exact HK.out _ _ (by first | rfl | simp [la26F]) (Below.refl _ _)
           ·simp only [getElem?_toArray, getElem?_cons_zero, getElem?_cons_succ, Option.some.injEq] at ho
            subst ho
            have e1 : vs 1 = .bool false := (he ⟨1, .guard⟩ (by simp) rfl : la26F P lb lo ln lc ii kk n1 m2 ov 1 (vs 1) W)
            rw [e1] at hK ⊢
            rw [if_pos (by rfl)]
            simp only [put_someT, setIfInBounds_toArray, set_cons_zero, set_cons_succ] at hK
            have HK := Lib.hid hK
            clear hK he hi hBW
            go_simp
            exact HK.out _ _ (by first | rfl | simp [la26F]) (Below.refl _ _)
           ·simp only [getElem?_toArray, getElem?_cons_zero, getElem?_cons_succ, Option.some.injEq] at ho
            subst ho
            have e1 : vs 1 = .bool false := (he ⟨1, .guard⟩ (by simp) rfl : la26F P lb lo ln lc ii kk n1 m2 ov 1 (vs 1) W)
            rw [e1] at hK ⊢
            rw [if_pos (by rfl)]
            simp only [put_someT, setIfInBounds_toArray, set_cons_zero, set_cons_succ] at hK
            have HK := Lib.hid hK
            clear hK he hi hBW
            go_simp
            exact HK.out _ _ (by first | rfl | simp [la26F]) (Below.refl _ _)
           ·simp only [getElem?_toArray, getElem?_cons_zero, getElem?_cons_succ, Option.some.injEq] at ho
            subst ho
            have e1 : vs 1 = .bool false := (he ⟨1, .guard⟩ (by simp) rfl : la26F P lb lo ln lc ii kk n1 m2 ov 1 (vs 1) W)
            rw [e1] at hK ⊢
            rw [if_pos (by rfl)]
            simp only [put_someT, setIfInBounds_toArray, set_cons_zero, set_cons_succ] at hK
            have HK := Lib.hid hK
            clear hK he hi hBW
            go_simp
            exact HK.out _ _ (by first | rfl | simp [la26F]) (Below.refl _ _)
           ·simp only [getElem?_toArray, getElem?_cons_zero, getElem?_cons_succ, Option.some.injEq] at ho
            subst ho
            have e3 : vs 3 = .slice (some ⟨lb, lo, none⟩) ln lc := (he ⟨3, .data⟩ (by simp) rfl : la26F P lb lo ln lc ii kk n1 m2 ov 3 (vs 3) W)
            rw [e3] at hK ⊢
            have e4 : vs 4 = .int .i64 (kk : Int) := (he ⟨4, .data⟩ (by simp) rfl : la26F P lb lo ln lc ii kk n1 m2 ov 4 (vs 4) W)
            rw [e4] at hK ⊢
            have e1 : vs 1 = .bool false := (he ⟨1, .guard⟩ (by simp) rfl : la26F P lb lo ln lc ii kk n1 m2 ov 1 (vs 1) W)
            rw [e1] at hK ⊢
            rw [if_pos (by rfl)]
            simp only [put_someT, setIfInBounds_toArray, set_cons_zero, set_cons_succ] at hK
            have HK := Lib.hid hK
            clear hK he hi hBW
            have i0 := J0.out
            have i1 := J1.out
            go_simp
            exact HK.out _ _ (by simp [la26F]) (Below.refl _ _)
           ·simp only [getElem?_toArray, getElem?_cons_zero, getElem?_cons_succ, Option.some.injEq] at ho
            subst ho
            have e5 : vs 5 = .pointer (some ⟨lb, lo + kk * 2, none⟩) := (he ⟨5, .data⟩ (by simp) rfl : la26F P lb lo ln lc ii kk n1 m2 ov 5 (vs 5) W)
            rw [e5] at hK ⊢
            have e1 : vs 1 = .bool false := (he ⟨1, .guard⟩ (by simp) rfl : la26F P lb lo ln lc ii kk n1 m2 ov 1 (vs 1) W)
            rw [e1] at hK ⊢
            rw [if_pos (by rfl)]
            simp only [put_someT, setIfInBounds_toArray, set_cons_zero, set_cons_succ] at hK
            have HK := Lib.hid hK
            clear hK he hi hBW
            go_simp
            exact HK.out _ _ (by first | rfl | simp [la26F]) (Below.refl _ _)
           ·simp only [getElem?_toArray, getElem?_cons_zero, getElem?_cons_succ, Option.some.injEq] at ho
            subst ho
            have e6 : vs 6 = .pointer (some ⟨lb, lo + kk * 2 + 1, none⟩) := (he ⟨6, .data⟩ (by simp) rfl : la26F P lb lo ln lc ii kk n1 m2 ov 6 (vs 6) W)
            rw [e6] at hK ⊢
            have e1 : vs 1 = .bool false := (he ⟨1, .guard⟩ (by simp) rfl : la26F P lb lo ln lc ii kk n1 m2 ov 1 (vs 1) W)
            rw [e1] at hK ⊢
            rw [if_pos (by rfl)]
            simp only [put_someT, setIfInBounds_toArray, set_cons_zero, set_cons_succ] at hK
            have HK := Lib.hid hK
            clear hK he hi hBW
            have cc := K1W.out
            go_simp
            exact HK.out _ _ rfl (Below.refl _ _)
           ·simp only [getElem?_toArray, getElem?_cons_zero, getElem?_cons_succ, Option.some.injEq] at ho
            subst ho
            have e1 : vs 1 = .bool false := (he ⟨1, .guard⟩ (by simp) rfl : la26F P lb lo ln lc ii kk n1 m2 ov 1 (vs 1) W)
            rw [e1] at hK ⊢
            rw [if_pos (by rfl)]
            simp only [put_someT, setIfInBounds_toArray, set_cons_zero, set_cons_succ] at hK
            have HK := Lib.hid hK
            clear hK he hi hBW
            go_simp
            exact HK.out _ _ (by first | rfl | simp [la26F]) (Below.refl _ _)
           ·simp only [getElem?_toArray, getElem?_cons_zero, getElem?_cons_succ, Option.some.injEq] at ho
            subst ho
            have e1 : vs 1 = .bool false := (he ⟨1, .guard⟩ (by simp) rfl : la26F P lb lo ln lc ii kk n1 m2 ov 1 (vs 1) W)
            rw [e1] at hK ⊢
            rw [if_pos (by rfl)]
            simp only [put_someT, setIfInBounds_toArray, set_cons_zero, set_cons_succ] at hK
            have HK := Lib.hid hK
            clear hK he hi hBW
            go_simp
            exact HK.out _ _ (by first | rfl | simp [la26F]) (Below.refl _ _)
           ·simp only [getElem?_toArray, getElem?_cons_zero, getElem?_cons_succ, Option.some.injEq] at ho
            subst ho
            have e8 : vs 8 = .slice (some ⟨lb, lo, none⟩) ln lc := (he ⟨8, .data⟩ (by simp) rfl : la26F P lb lo ln lc ii kk n1 m2 ov 8 (vs 8) W)
            rw [e8] at hK ⊢
            have e9 : vs 9 = .int .i64 (ii : Int) := (he ⟨9, .data⟩ (by simp) rfl : la26F P lb lo ln lc ii kk n1 m2 ov 9 (vs 9) W)
            rw [e9] at hK ⊢
            have e1 : vs 1 = .bool false := (he ⟨1, .guard⟩ (by simp) rfl : la26F P lb lo ln lc ii kk n1 m2 ov 1 (vs 1) W)
            rw [e1] at hK ⊢
            rw [if_pos (by rfl)]
            simp only [put_someT, setIfInBounds_toArray, set_cons_zero, set_cons_succ] at hK
            have HK := Lib.hid hK
            clear hK he hi hBW
            have i0 := II0.out
            have i1 := II1.out
            go_simp
            exact HK.out _ _ (by simp [la26F]) (Below.refl _ _)
           ·simp only [getElem?_toArray, getElem?_cons_zero, getElem?_cons_succ, Option.some.injEq] at ho
            subst ho
            have e10 : vs 10 = .pointer (some ⟨lb, lo + ii * 2, none⟩) := (he ⟨10, .data⟩ (by simp) rfl : la26F P lb lo ln lc ii kk n1 m2 ov 10 (vs 10) W)
            rw [e10] at hK ⊢
            have e1 : vs 1 = .bool false := (he ⟨1, .guard⟩ (by simp) rfl : la26F P lb lo ln lc ii kk n1 m2 ov 1 (vs 1) W)
            rw [e1] at hK ⊢
            rw [if_pos (by rfl)]
            simp only [put_someT, setIfInBounds_toArray, set_cons_zero, set_cons_succ] at hK
            have HK := Lib.hid hK
            clear hK he hi hBW
            go_simp
            exact HK.out _ _ (by first | rfl | simp [la26F]) (Below.refl _ _)
           ·simp only [getElem?_toArray, getElem?_cons_zero, getElem?_cons_succ, Option.some.injEq] at ho
            subst ho
            have e11 : vs 11 = .pointer (some ⟨lb, lo + ii * 2 + 1, none⟩) := (he ⟨11, .data⟩ (by simp) rfl : la26F P lb lo ln lc ii kk n1 m2 ov 11 (vs 11) W)
            rw [e11] at hK ⊢
            have e1 : vs 1 = .bool false := (he ⟨1, .guard⟩ (by simp) rfl : la26F P lb lo ln lc ii kk n1 m2 ov 1 (vs 1) W)
            rw [e1] at hK ⊢
            rw [if_pos (by rfl)]
            simp only [put_someT, setIfInBounds_toArray, set_cons_zero, set_cons_succ] at hK
            have HK := Lib.hid hK
            clear hK he hi hBW
            have cc := L1W.out
            go_simp
            exact HK.out _ _ rfl (Below.refl _ _)
           ·simp only [getElem?_toArray, getElem?_cons_zero, getElem?_cons_succ, Option.some.injEq] at ho
            subst ho
            have e2 : vs 2 = .pointer (some ⟨P, 0, none⟩) := (he ⟨2, .data⟩ (by simp) rfl : la26F P lb lo ln lc ii kk n1 m2 ov 2 (vs 2) W)
            rw [e2] at hK ⊢
            have e7 : vs 7 = .int .i64 (m2 : Int) := (he ⟨7, .data⟩ (by simp) rfl : la26F P lb lo ln lc ii kk n1 m2 ov 7 (vs 7) W)
            rw [e7] at hK ⊢
            have e12 : vs 12 = .int .i64 (n1 : Int) := (he ⟨12, .data⟩ (by simp) rfl : la26F P lb lo ln lc ii kk n1 m2 ov 12 (vs 12) W)
            rw [e12] at hK ⊢
            have e1 : vs 1 = .bool false := (he ⟨1, .guard⟩ (by simp) rfl : la26F P lb lo ln lc ii kk n1 m2 ov 1 (vs 1) W)
            rw [e1] at hK ⊢
            rw [if_pos (by rfl)]
            simp only [put_someT, setIfInBounds_toArray, set_cons_zero, set_cons_succ] at hK
            have HK := Lib.hid hK
            clear hK he hi hBW
            have CC := POW.out
            go_simp
            go_at_call 37
            refine CC.mono ?_
            rintro en wz ⟨rfl, h⟩
            go_simp
            exact HK.out _ _ rfl h
           ·simp only [getElem?_toArray, getElem?_cons_zero, getElem?_cons_succ, Option.some.injEq] at ho
            subst ho
            have e1 : vs 1 = .bool false := (he ⟨1, .data⟩ (by simp) rfl : la26F P lb lo ln lc ii kk n1 m2 ov 1 (vs 1) W)
            rw [e1] at hK ⊢
            have e13 : vs 13 = .bool ov := (he ⟨13, .data⟩ (by simp) rfl : la26F P lb lo ln lc ii kk n1 m2 ov 13 (vs 13) W)
            rw [e13] at hK ⊢
            rw [if_pos (by rfl)]
            simp only [put_someT, setIfInBounds_toArray, set_cons_zero, set_cons_succ] at hK
            have HK := Lib.hid hK
            clear hK he hi hBW
            go_simp
            exact HK.out _ _ (by first | rfl | simp [la26F]) (Below.refl _ _)
          ·intro vs Wb hall hBW
           have e14 : vs 14 = .bool ov := (hall 14 (by decide) : la26F P lb lo ln lc ii kk n1 m2 ov 14 (vs 14) Wb)
           simp only [take_succ_cons, take_zero, List.drop_succ_cons, List.drop_zero, fillV, put_someT, put_noneC, setIfInBounds_toArray, set_cons_zero, set_cons_succ]
           rw [e14]
           generalize vs 0 = z0
           generalize vs 1 = z1
           generalize vs 2 = z2
           generalize vs 3 = z3
           generalize vs 4 = z4
           generalize vs 5 = z5
           generalize vs 6 = z6
           generalize vs 7 = z7
           generalize vs 8 = z8
           generalize vs 9 = z9
           generalize vs 10 = z10
           generalize vs 11 = z11
           generalize vs 12 = z12
           generalize vs 13 = z13
           have B6b := Lib.hid (B6a.out.trans (hBW.mono B6a.out.size))
           have HOR := Lib.hid (show oth I0 L.length S n1 obf (kk + 1) = ov from by rw [HO2.out]; rfl)
           have j1 := J1.out
           clear hall hBW e14 HO2 B6a B3a POC OBV
           go_wp2_with fail
           go_roundw
           case rel => exact ⟨kk + 1, by omega, by go_num, by rw [HNR.out], by rw [HOR.out], B6b.out⟩
           case measure => simp [intOf]; omega
        ·as_aux_lemma =>
          go_wp2_with fail
          refine wp_region_tail (PP := la26T P lb lo ln lc ii kk n1 m2 ov) 15 rfl (by kernel_rfl) (by kernel_rfl) (by decide) (by decide) (la26T_mono P lb lo ln lc ii kk n1 m2 ov) (fun ii => match ii with | 0 => u124 | 1 => u125 | 2 => u126 | 3 => u127 | 4 => u128 | 5 => u129 | 6 => u130 | 7 => u131 | 8 => u132 | 9 => u133 | 10 => u134 | 11 => u135 | 12 => u136 | 13 => u137 | 14 => u138 | _ => undef) (by simp [fillV, put_someT, setIfInBounds_toArray, set_cons_zero, set_cons_succ]) ?_ ?_
          ·intro i o vs W hi ho he hBW K hK
           simp only [take_succ_cons, take_zero, fillV, put_someT, setIfInBounds_toArray, set_cons_zero, set_cons_succ] at hK ⊢
           have L0W := Lib.hid ((hBW.cell (p := ⟨lb, lo + ii * 2, none⟩) HLBQ.out).trans L0Q.out)
           have L1W := Lib.hid ((hBW.cell (p := ⟨lb, lo + ii * 2 + 1, none⟩) HLBQ.out).trans L1Q.out)
           have K0W := Lib.hid ((hBW.cell (p := ⟨lb, lo + kk * 2, none⟩) HLBQ.out).trans K0Q.out)
           have K1W := Lib.hid ((hBW.cell (p := ⟨lb, lo + kk * 2 + 1, none⟩) HLBQ.out).trans K1Q.out)
           have POW := Lib.hid (POC.out W (B3a.out.trans (hBW.mono B3a.out.size)))
           obtain rfl | rfl | rfl | rfl | rfl | rfl | rfl | rfl | rfl | rfl | rfl | rfl | rfl | rfl | rfl := (show i = 0 ∨ i = 1 ∨ i = 2 ∨ i = 3 ∨ i = 4 ∨ i = 5 ∨ i = 6 ∨ i = 7 ∨ i = 8 ∨ i = 9 ∨ i = 10 ∨ i = 11 ∨ i = 12 ∨ i = 13 ∨ i = 14 by exact (by have : i < 15 := hi; omega))
           ·simp only [getElem?_toArray, getElem?_cons_zero, getElem?_cons_succ, Option.some.injEq] at ho
            subst ho
            rw [if_pos (by rfl)]
            simp only [put_someT, setIfInBounds_toArray, set_cons_zero, set_cons_succ] at hK
            have HK := Lib.hid hK
            clear hK he hi hBW
            go_simp
            exact HK.out _ _ (by first | rfl | simp [la26T]) (Below.refl _ _)
           ·simp only [getElem?_toArray, getElem?_cons_zero, getElem?_cons_succ, Option.some.injEq] at ho
            subst ho
            have e0 : vs 0 = .bool true := (he ⟨0, .data⟩ (by simp) rfl : la26T P lb lo ln lc ii kk n1 m2 ov 0 (vs 0) W)
            rw [e0] at hK ⊢
            rw [if_pos (by rfl)]
            simp only [put_someT, setIfInBounds_toArray, set_cons_zero, set_cons_succ] at hK
            have HK := Lib.hid hK
            clear hK he hi hBW
            go_simp
            exact HK.out _ _ (by first | rfl | simp [la26T]) (Below.refl _ _)
           ·simp only [getElem?_toArray, getElem?_cons_zero, getElem?_cons_succ, Option.some.injEq] at ho
            subst ho
            have e1 : vs 1 = .bool true := (he ⟨1, .guard⟩ (by simp) rfl : la26T P lb lo ln lc ii kk n1 m2 ov 1 (vs 1) W)
            rw [e1] at hK ⊢
            rw [if_neg (by exact Bool.false_ne_true)]
            exact hK _ _ rfl (Below.refl _ _)
           ·simp only [getElem?_toArray, getElem?_cons_zero, getElem?_cons_succ, Option.some.injEq] at ho
            subst ho
            have e1 : vs 1 = .bool true := (he ⟨1, .guard⟩ (by simp) rfl : la26T P lb lo ln lc ii kk n1 m2 ov 1 (vs 1) W)
            rw [e1] at hK ⊢
            rw [if_neg (by exact Bool.false_ne_true)]
            exact hK _ _ rfl (Below.refl _ _)
           ·simp only [getElem?_toArray, getElem?_cons_zero, getElem?_cons_succ, Option.some.injEq] at ho
            subst ho
            have e1 : vs 1 = .bool true := (he ⟨1, .guard⟩ (by simp) rfl : la26T P lb lo ln lc ii kk n1 m2 ov 1 (vs 1) W)
            rw [e1] at hK ⊢
            rw [if_neg (by exact Bool.false_ne_true)]
            exact hK _ _ rfl (Below.refl _ _)
           ·simp only [getElem?_toArray, getElem?_cons_zero, getElem?_cons_succ, Option.some.injEq] at ho
            subst ho
            have e3 : vs 3 = undef := (he ⟨3, .data⟩ (by simp) rfl : la26T P lb lo ln lc ii kk n1 m2 ov 3 (vs 3) W)
            rw [e3] at hK ⊢
            have e4 : vs 4 = undef := (he ⟨4, .data⟩ (by simp) rfl : la26T P lb lo ln lc ii kk n1 m2 ov 4 (vs 4) W)
            rw [e4] at hK ⊢
            have e1 : vs 1 = .bool true := (he ⟨1, .guard⟩ (by simp) rfl : la26T P lb lo ln lc ii kk n1 m2 ov 1 (vs 1) W)
            rw [e1] at hK ⊢
            rw [if_neg (by exact Bool.false_ne_true)]
            exact hK _ _ rfl (Below.refl _ _)
           ·simp only [getElem?_toArray, getElem?_cons_zero, getElem?_cons_succ, Option.some.injEq] at ho
            subst ho
            have e5 : vs 5 = undef := (he ⟨5, .data⟩ (by simp) rfl : la26T P lb lo ln lc ii kk n1 m2 ov 5 (vs 5) W)
            rw [e5] at hK ⊢
            have e1 : vs 1 = .bool true := (he ⟨1, .guard⟩ (by simp) rfl : la26T P lb lo ln lc ii kk n1 m2 ov 1 (vs 1) W)
            rw [e1] at hK ⊢
            rw [if_neg (by exact Bool.false_ne_true)]
            exact hK _ _ rfl (Below.refl _ _)
           ·simp only [getElem?_toArray, getElem?_cons_zero, getElem?_cons_succ, Option.some.injEq] at ho
            subst ho
            have e6 : vs 6 = undef := (he ⟨6, .data⟩ (by simp) rfl : la26T P lb lo ln lc ii kk n1 m2 ov 6 (vs 6) W)
            rw [e6] at hK ⊢
            have e1 : vs 1 = .bool true := (he ⟨1, .guard⟩ (by simp) rfl : la26T P lb lo ln lc ii kk n1 m2 ov 1 (vs 1) W)
            rw [e1] at hK ⊢
            rw [if_neg (by exact Bool.false_ne_true)]
            exact hK _ _ rfl (Below.refl _ _)
           ·simp only [getElem?_toArray, getElem?_cons_zero, getElem?_cons_succ, Option.some.injEq] at ho
            subst ho
            have e1 : vs 1 = .bool true := (he ⟨1, .guard⟩ (by simp) rfl : la26T P lb lo ln lc ii kk n1 m2 ov 1 (vs 1) W)
            rw [e1] at hK ⊢
            rw [if_neg (by exact Bool.false_ne_true)]
            exact hK _ _ rfl (Below.refl _ _)
           ·simp only [getElem?_toArray, getElem?_cons_zero, getElem?_cons_succ, Option.some.injEq] at ho
            subst ho
            have e1 : vs 1 = .bool true := (he ⟨1, .guard⟩ (by simp) rfl : la26T P lb lo ln lc ii kk n1 m2 ov 1 (vs 1) W)
            rw [e1] at hK ⊢
            rw [if_neg (by exact Bool.false_ne_true)]
            exact hK _ _ rfl (Below.refl _ _)
           ·simp only [getElem?_toArray, getElem?_cons_zero, getElem?_cons_succ, Option.some.injEq] at ho
            subst ho
            have e8 : vs 8 = undef := (he ⟨8, .data⟩ (by simp) rfl : la26T P lb lo ln lc ii kk n1 m2 ov 8 (vs 8) W)
            rw [e8] at hK ⊢
            have e9 : vs 9 = undef := (he ⟨9, .data⟩ (by simp) rfl : la26T P lb lo ln lc ii kk n1 m2 ov 9 (vs 9) W)
            rw [e9] at hK ⊢
            have e1 : vs 1 = .bool true := (he ⟨1, .guard⟩ (by simp) rfl : la26T P lb lo ln lc ii kk n1 m2 ov 1 (vs 1) W)
            rw [e1] at hK ⊢
            rw [if_neg (by exact Bool.false_ne_true)]
            exact hK _ _ rfl (Below.refl _ _)
           ·simp only [getElem?_toArray, getElem?_cons_zero, getElem?_cons_succ, Option.some.injEq] at ho
            subst ho
            have e10 : vs 10 = undef := (he ⟨10, .data⟩ (by simp) rfl : la26T P lb lo ln lc ii kk n1 m2 ov 10 (vs 10) W)
            rw [e10] at hK ⊢
            have e1 : vs 1 = .bool true := (he ⟨1, .guard⟩ (by simp) rfl : la26T P lb lo ln lc ii kk n1 m2 ov 1 (vs 1) W)
            rw [e1] at hK ⊢
            rw [if_neg (by exact Bool.false_ne_true)]
            exact hK _ _ rfl (Below.refl _ _)
           ·simp only [getElem?_toArray, getElem?_cons_zero, getElem?_cons_succ, Option.some.injEq] at ho
            subst ho
            have e11 : vs 11 = undef := (he ⟨11, .data⟩ (by simp) rfl : la26T P lb lo ln lc ii kk n1 m2 ov 11 (vs 11) W)
            rw [e11] at hK ⊢
            have e1 : vs 1 = .bool true := (he ⟨1, .guard⟩ (by simp) rfl : la26T P lb lo ln lc ii kk n1 m2 ov 1 (vs 1) W)
            rw [e1] at hK ⊢
            rw [if_neg (by exact Bool.false_ne_true)]
            exact hK _ _ rfl (Below.refl _ _)
           ·simp only [getElem?_toArray, getElem?_cons_zero, getElem?_cons_succ, Option.some.injEq] at ho
            subst ho
            have e2 : vs 2 = undef := (he ⟨2, .data⟩ (by simp) rfl : la26T P lb lo ln lc ii kk n1 m2 ov 2 (vs 2) W)
            rw [e2] at hK ⊢
            have e7 : vs 7 = undef := (he ⟨7, .data⟩ (by simp) rfl : la26T P lb lo ln lc ii kk n1 m2 ov 7 (vs 7) W)
            rw [e7] at hK ⊢
            have e12 : vs 12 = undef := (he ⟨12, .data⟩ (by simp) rfl : la26T P lb lo ln lc ii kk n1 m2 ov 12 (vs 12) W)
            rw [e12] at hK ⊢
            have e1 : vs 1 = .bool true := (he ⟨1, .guard⟩ (by simp) rfl : la26T P lb lo ln lc ii kk n1 m2 ov 1 (vs 1) W)
            rw [e1] at hK ⊢
            rw [if_neg (by exact Bool.false_ne_true)]
            exact hK _ _ rfl (Below.refl _ _)
           ·simp only [getElem?_toArray, getElem?_cons_zero, getElem?_cons_succ, Option.some.injEq] at ho
            subst ho
            have e1 : vs 1 = .bool true := (he ⟨1, .data⟩ (by simp) rfl : la26T P lb lo ln lc ii kk n1 m2 ov 1 (vs 1) W)
            rw [e1] at hK ⊢
            have e13 : vs 13 = undef := (he ⟨13, .data⟩ (by simp) rfl : la26T P lb lo ln lc ii kk n1 m2 ov 13 (vs 13) W)
            rw [e13] at hK ⊢
            rw [if_pos (by rfl)]
            simp only [put_someT, setIfInBounds_toArray, set_cons_zero, set_cons_succ] at hK
            have HK := Lib.hid hK
            clear hK he hi hBW
            go_simp
            exact HK.out _ _ (by first | rfl | simp [la26T]) (Below.refl _ _)
          ·intro vs Wb hall hBW
           have e14 : vs 14 = .bool true := (hall 14 (by decide) : la26T P lb lo ln lc ii kk n1 m2 ov 14 (vs 14) Wb)
           simp only [take_succ_cons, take_zero, List.drop_succ_cons, List.drop_zero, fillV, put_someT, put_noneC, setIfInBounds_toArray, set_cons_zero, set_cons_succ]
           rw [e14]
           generalize vs 0 = z0
           generalize vs 1 = z1
           generalize vs 2 = z2
           generalize vs 3 = z3
           generalize vs 4 = z4
           generalize vs 5 = z5
           generalize vs 6 = z6
           generalize vs 7 = z7
           generalize vs 8 = z8
           generalize vs 9 = z9
           generalize vs 10 = z10
           generalize vs 11 = z11
           generalize vs 12 = z12
           generalize vs 13 = z13
           have B6b := Lib.hid (B6a.out.trans (hBW.mono B6a.out.size))
           have HOR := Lib.hid (show oth I0 L.length S n1 obf (kk + 1) = true from by rw [HO2.out]; rfl)
           have j1 := J1.out
           clear hall hBW e14 HO2 B6a B3a POC OBV
           go_wp2_with fail
           go_roundw
           case rel => exact ⟨kk + 1, by omega, by go_num, by rw [HNR.out], by rw [HOR.out], B6b.out⟩
           case measure => simp [intOf]; omega
       ·have hcn : ¬ n1 < I0 := by have := HC1.out; simpa using this
        have OBV := Lib.hid (show obN L n1 m2 = ov from by rw [← hov, HOF.out]; show _ = if n1 < I0 then obN L m2 n1 else obN L n1 m2; rw [if_neg hcn])
        have POC := Lib.hid (fun W hb => OBV.out ▸ PO.out n1 m2 W hb)
        clear hcn hov
        cases ob
        ·as_aux_lemma =>
          go_wp2_with fail
          refine wp_region_tail (PP := la25F P lb lo ln lc ii kk n1 m2 ov) 15 rfl (by kernel_rfl) (by kernel_rfl) (by decide) (by decide) (la25F_mono P lb lo ln lc ii kk n1 m2 ov) (fun ii => match ii with | 0 => u109 | 1 => u110 | 2 => u111 | 3 => u112 | 4 => u113 | 5 => u114 | 6 => u115 | 7 => u116 | 8 => u117 | 9 => u118 | 10 => u119 | 11 => u120 | 12 => u121 | 13 => u122 | 14 => u123 | _ => undef) (by simp [fillV, put_someT, setIfInBounds_toArray, set_cons_zero, set_cons_succ]) ?_ ?_
          ·intro i o vs W hi ho he hBW K hK
           simp only [take_succ_cons, take_zero, fillV, put_someT, setIfInBounds_toArray, set_cons_zero, set_cons_succ] at hK ⊢
           have L0W := Lib.hid ((hBW.cell (p := ⟨lb, lo + ii * 2, none⟩) HLBQ.out).trans L0Q.out)
           have L1W := Lib.hid ((hBW.cell (p := ⟨lb, lo + ii * 2 + 1, none⟩) HLBQ.out).trans L1Q.out)
           have K0W := Lib.hid ((hBW.cell (p := ⟨lb, lo + kk * 2, none⟩) HLBQ.out).trans K0Q.out)
           have K1W := Lib.hid ((hBW.cell (p := ⟨lb, lo + kk * 2 + 1, none⟩) HLBQ.out).trans K1Q.out)
           have POW := Lib.hid (POC.out W (B3a.out.trans (hBW.mono B3a.out.size)))
           obtain rfl | rfl | rfl | rfl | rfl | rfl | rfl | rfl | rfl | rfl | rfl | rfl | rfl | rfl | rfl := (show i = 0 ∨ i = 1 ∨ i = 2 ∨ i = 3 ∨ i = 4 ∨ i = 5 ∨ i = 6 ∨ i = 7 ∨ i = 8 ∨ i = 9 ∨ i = 10 ∨ i = 11 ∨ i = 12 ∨ i = 13 ∨ i = 14 by exact (by have : i < 15 := hi; omega))
           ·simp only [getElem?_toArray, getElem?_cons_zero, getElem?_cons_succ, Option.some.injEq] at ho
            subst ho
            rw [if_pos (by rfl)]
            simp only [put_someT, setIfInBounds_toArray, set_cons_zero, set_cons_succ] at hK
            have HK := Lib.hid hK
            clear hK he hi hBW
            go_simp
            exact HK.out _ _ (by first | rfl | simp [la25F]) (Below.refl _ _)
           ·simp only [getElem?_toArray, getElem?_cons_zero, getElem?_cons_succ, Option.some.injEq] at ho
            subst ho
            have e0 : vs 0 = .bool false := (he ⟨0, .data⟩ (by simp) rfl : la25F P lb lo ln lc ii kk n1 m2 ov 0 (vs 0) W)
            rw [e0] at hK ⊢
            rw [if_pos (by rfl)]
            simp only [put_someT, setIfInBounds_toArray, set_cons_zero, set_cons_succ] at hK
            have HK := Lib.hid hK
            clear hK he hi hBW
            go_simp
            exact HK.out _ _ (by first | rfl | simp [la25F]) (Below.refl _ _)
           ·simp only [getElem?_toArray, getElem?_cons_zero, getElem?_cons_succ, Option.some.injEq] at ho
            subst ho
            have e1 : vs 1 = .bool false := (he ⟨1, .guard⟩ (by simp) rfl : la25F P lb lo ln lc ii kk n1 m2 ov 1 (vs 1) W)
            rw [e1] at hK ⊢
            rw [if_pos (by rfl)]
            simp only [put_someT, setIfInBounds_toArray, set_cons_zero, set_cons_succ] at hK
            have HK := Lib.hid hK
            clear hK he hi hBW
            go_simp
            exact HK.out _ _ (by first | rfl | simp [la25F]) (Below.refl _ _)
           ·simp only [getElem?_toArray, getElem?_cons_zero, getElem?_cons_succ, Option.some.injEq] at ho
            subst ho
            have e1 : vs 1 = .bool false := (he ⟨1, .guard⟩ (by simp) rfl : la25F P lb lo ln lc ii kk n1 m2 ov 1 (vs 1) W)
            rw [e1] at hK ⊢
            rw [if_pos (by rfl)]
            simp only [put_someT, setIfInBounds_toArray, set_cons_zero, set_cons_succ] at hK
            have HK := Lib.hid hK
            clear hK he hi hBW
            go_simp
            exact HK.out _ _ (by first | rfl | simp [la25F]) (Below.refl _ _)
           ·simp only [getElem?_toArray, getElem?_cons_zero, getElem?_cons_succ, Option.some.injEq] at ho
            subst ho
            have e1 : vs 1 = .bool false := (he ⟨1, .guard⟩ (by simp) rfl : la25F P lb lo ln lc ii kk n1 m2 ov 1 (vs 1) W)
            rw [e1] at hK ⊢
            rw [if_pos (by rfl)]
            simp only [put_someT, setIfInBounds_toArray, set_cons_zero, set_cons_succ] at hK
            have HK := Lib.hid hK
            clear hK he hi hBW
            go_simp
            exact HK.out _ _ (by first | rfl | simp [la25F]) (Below.refl _ _)
           ·simp only [getElem?_toArray, getElem?_cons_zero, getElem?_cons_succ, Option.some.injEq] at ho
            subst ho
            have e3 : vs 3 = .slice (some ⟨lb, lo, none⟩) ln lc := (he ⟨3, .data⟩ (by simp) rfl : la25F P lb lo ln lc ii kk n1 m2 ov 3 (vs 3) W)
            rw [e3] at hK ⊢
            have e4 : vs 4 = .int .i64 (ii : Int) := (he ⟨4, .data⟩ (by simp) rfl : la25F P lb lo ln lc ii kk n1 m2 ov 4 (vs 4) W)
            rw [e4] at hK ⊢
            have e1 : vs 1 = .bool false := (he ⟨1, .guard⟩ (by simp) rfl : la25F P lb lo ln lc ii kk n1 m2 ov 1 (vs 1) W)
            rw [e1] at hK ⊢
            rw [if_pos (by rfl)]
            simp only [put_someT, setIfInBounds_toArray, set_cons_zero, set_cons_succ] at hK
            have HK := Lib.hid hK
            clear hK he hi hBW
            have i0 := II0.out
            have i1 := II1.out
            go_simp
            exact HK.out _ _ (by simp [la25F]) (Below.refl _ _)
           ·simp only [getElem?_toArray, getElem?_cons_zero, getElem?_cons_succ, Option.some.injEq] at ho
            subst ho
            have e5 : vs 5 = .pointer (some ⟨lb, lo + ii * 2, none⟩) := (he ⟨5, .data⟩ (by simp) rfl : la25F P lb lo ln lc ii kk n1 m2 ov 5 (vs 5) W)
            rw [e5] at hK ⊢
            have e1 : vs 1 = .bool false := (he ⟨1, .guard⟩ (by simp) rfl : la25F P lb lo ln lc ii kk n1 m2 ov 1 (vs 1) W)
            rw [e1] at hK ⊢
            rw [if_pos (by rfl)]
            simp only [put_someT, setIfInBounds_toArray, set_cons_zero, set_cons_succ] at hK
            have HK := Lib.hid hK
            clear hK he hi hBW
            go_simp
            exact HK.out _ _ (by first | rfl | simp [la25F]) (Below.refl _ _)
           ·simp only [getElem?_toArray, getElem?_cons_zero, getElem?_cons_succ, Option.some.injEq] at ho
            subst ho
            have e6 : vs 6 = .pointer (some ⟨lb, lo + ii * 2 + 1, none⟩) := (he ⟨6, .data⟩ (by simp) rfl : la25F P lb lo ln lc ii kk n1 m2 ov 6 (vs 6) W)
            rw [e6] at hK ⊢
            have e1 : vs 1 = .bool false := (he ⟨1, .guard⟩ (by simp) rfl : la25F P lb lo ln lc ii kk n1 m2 ov 1 (vs 1) W)
            rw [e1] at hK ⊢
            rw [if_pos (by rfl)]
            simp only [put_someT, setIfInBounds_toArray, set_cons_zero, set_cons_succ] at hK
            have HK := Lib.hid hK
            clear hK he hi hBW
            have cc := L1W.out
            go_simp
            exact HK.out _ _ rfl (Below.refl _ _)
           ·simp only [getElem?_toArray, getElem?_cons_zero, getElem?_cons_succ, Option.some.injEq] at ho
            subst ho
            have e1 : vs 1 = .bool false := (he ⟨1, .guard⟩ (by simp) rfl : la25F P lb lo ln lc ii kk n1 m2 ov 1 (vs 1) W)
            rw [e1] at hK ⊢
            rw [if_pos (by rfl)]
            simp only [put_someT, setIfInBounds_toArray, set_cons_zero, set_cons_succ] at hK
            have HK := Lib.hid hK
            clear hK he hi hBW
            go_simp
            exact HK.out _ _ (by first | rfl | simp [la25F]) (Below.refl _ _)
           ·simp only [getElem?_toArray, getElem?_cons_zero, getElem?_cons_succ, Option.some.injEq] at ho
            subst ho
            have e1 : vs 1 = .bool false := (he ⟨1, .guard⟩ (by simp) rfl : la25F P lb lo ln lc ii kk n1 m2 ov 1 (vs 1) W)
            rw [e1] at hK ⊢
            rw [if_pos (by rfl)]
            simp only [put_someT, setIfInBounds_toArray, set_cons_zero, set_cons_succ] at hK
            have HK := Lib.hid hK
            clear hK he hi hBW
            go_simp
            exact HK.out _ _ (by first | rfl | simp [la25F]) (Below.refl _ _)
           ·simp only [getElem?_toArray, getElem?_cons_zero, getElem?_cons_succ, Option.some.injEq] at ho
            subst ho
            have e8 : vs 8 = .slice (some ⟨lb, lo, none⟩) ln lc := (he ⟨8, .data⟩ (by simp) rfl : la25F P lb lo ln lc ii kk n1 m2 ov 8 (vs 8) W)
            rw [e8] at hK ⊢
            have e9 : vs 9 = .int .i64 (kk : Int) := (he ⟨9, .data⟩ (by simp) rfl : la25F P lb lo ln lc ii kk n1 m2 ov 9 (vs 9) W)
            rw [e9] at hK ⊢
            have e1 : vs 1 = .bool false := (he ⟨1, .guard⟩ (by simp) rfl : la25F P lb lo ln lc ii kk n1 m2 ov 1 (vs 1) W)
            rw [e1] at hK ⊢
            rw [if_pos (by rfl)]
            simp only [put_someT, setIfInBounds_toArray, set_cons_zero, set_cons_succ] at hK
            have HK := Lib.hid hK
            clear hK he hi hBW
            have i0 := J0.out
            have i1 := J1.out
            go_simp
            exact HK.out _ _ (by simp [la25F]) (Below.refl _ _)
           ·simp only [getElem?_toArray, getElem?_cons_zero, getElem?_cons_succ, Option.some.injEq] at ho
            subst ho
            have e10 : vs 10 = .pointer (some ⟨lb, lo + kk * 2, none⟩) := (he ⟨10, .data⟩ (by simp) rfl : la25F P lb lo ln lc ii kk n1 m2 ov 10 (vs 10) W)
            rw [e10] at hK ⊢
            have e1 : vs 1 = .bool false := (he ⟨1, .guard⟩ (by simp) rfl : la25F P lb lo ln lc ii kk n1 m2 ov 1 (vs 1) W)
            rw [e1] at hK ⊢
            rw [if_pos (by rfl)]
            simp only [put_someT, setIfInBounds_toArray, set_cons_zero, set_cons_succ] at hK
            have HK := Lib.hid hK
            clear hK he hi hBW
            go_simp
            exact HK.out _ _ (by first | rfl | simp [la25F]) (Below.refl _ _)
           ·simp only [getElem?_toArray, getElem?_cons_zero, getElem?_cons_succ, Option.some.injEq] at ho
            subst ho
            have e11 : vs 11 = .pointer (some ⟨lb, lo + kk * 2 + 1, none⟩) := (he ⟨11, .data⟩ (by simp) rfl : la25F P lb lo ln lc ii kk n1 m2 ov 11 (vs 11) W)
            rw [e11] at hK ⊢
            have e1 : vs 1 = .bool false := (he ⟨1, .guard⟩ (by simp) rfl : la25F P lb lo ln lc ii kk n1 m2 ov 1 (vs 1) W)
            rw [e1] at hK ⊢
            rw [if_pos (by rfl)]
            simp only [put_someT, setIfInBounds_toArray, set_cons_zero, set_cons_succ] at hK
            have HK := Lib.hid hK
            clear hK he hi hBW
            have cc := K1W.out
            go_simp
            exact HK.out _ _ rfl (Below.refl _ _)
           ·simp only [getElem?_toArray, getElem?_cons_zero, getElem?_cons_succ, Option.some.injEq] at ho
            subst ho
            have e2 : vs 2 = .pointer (some ⟨P, 0, none⟩) := (he ⟨2, .data⟩ (by simp) rfl : la25F P lb lo ln lc ii kk n1 m2 ov 2 (vs 2) W)
            rw [e2] at hK ⊢
            have e7 : vs 7 = .int .i64 (n1 : Int) := (he ⟨7, .data⟩ (by simp) rfl : la25F P lb lo ln lc ii kk n1 m2 ov 7 (vs 7) W)
            rw [e7] at hK ⊢
            have e12 : vs 12 = .int .i64 (m2 : Int) := (he ⟨12, .data⟩ (by simp) rfl : la25F P lb lo ln lc ii kk n1 m2 ov 12 (vs 12) W)
            rw [e12] at hK ⊢
            have e1 : vs 1 = .bool false := (he ⟨1, .guard⟩ (by simp) rfl : la25F P lb lo ln lc ii kk n1 m2 ov 1 (vs 1) W)
            rw [e1] at hK ⊢
            rw [if_pos (by rfl)]
            simp only [put_someT, setIfInBounds_toArray, set_cons_zero, set_cons_succ] at hK
            have HK := Lib.hid hK
            clear hK he hi hBW
            have CC := POW.out
            go_simp
            go_at_call 37
            refine CC.mono ?_
            rintro en wz ⟨rfl, h⟩
            go_simp
            exact HK.out _ _ rfl h
           ·simp only [getElem?_toArray, getElem?_cons_zero, getElem?_cons_succ, Option.some.injEq] at ho
            subst ho
            have e1 : vs 1 = .bool false := (he ⟨1, .data⟩ (by simp) rfl : la25F P lb lo ln lc ii kk n1 m2 ov 1 (vs 1) W)
            rw [e1] at hK ⊢
            have e13 : vs 13 = .bool ov := (he ⟨13, .data⟩ (by simp) rfl : la25F P lb lo ln lc ii kk n1 m2 ov 13 (vs 13) W)
            rw [e13] at hK ⊢
            rw [if_pos (by rfl)]
            simp only [put_someT, setIfInBounds_toArray, set_cons_zero, set_cons_succ] at hK
            have HK := Lib.hid hK
            clear hK he hi hBW
            go_simp
            exact HK.out _ _ (by first | rfl | simp [la25F]) (Below.refl _ _)
          ·intro vs Wb hall hBW
           have e14 : vs 14 = .bool ov := (hall 14 (by decide) : la25F P lb lo ln lc ii kk n1 m2 ov 14 (vs 14) Wb)
           simp only [take_succ_cons, take_zero, List.drop_succ_cons, List.drop_zero, fillV, put_someT, put_noneC, setIfInBounds_toArray, set_cons_zero, set_cons_succ]
           rw [e14]
           generalize vs 0 = z0
           generalize vs 1 = z1
           generalize vs 2 = z2
           generalize vs 3 = z3
           generalize vs 4 = z4
           generalize vs 5 = z5
           generalize vs 6 = z6
           generalize vs 7 = z7
           generalize vs 8 = z8
           generalize vs 9 = z9
           generalize vs 10 = z10
           generalize vs 11 = z11
           generalize vs 12 = z12
           generalize vs 13 = z13
           have B6b := Lib.hid (B6a.out.trans (hBW.mono B6a.out.size))
           have HOR := Lib.hid (show oth I0 L.length S n1 obf (kk + 1) = ov from by rw [HO2.out]; rfl)
           have j1 := J1.out
           clear hall hBW e14 HO2 B6a B3a POC OBV
           go_wp2_with fail
           go_roundw
           case rel => exact ⟨kk + 1, by omega, by go_num, by rw [HNR.out], by rw [HOR.out], B6b.out⟩
           case measure => simp [intOf]; omega
        ·as_aux_lemma =>
          go_wp2_with fail
          refine wp_region_tail (PP := la25T P lb lo ln lc ii kk n1 m2 ov) 15 rfl (by kernel_rfl) (by kernel_rfl) (by decide) (by decide) (la25T_mono P lb lo ln lc ii kk n1 m2 ov) (fun ii => match ii with | 0 => u109 | 1 => u110 | 2 => u111 | 3 => u112 | 4 => u113 | 5 => u114 | 6 => u115 | 7 => u116 | 8 => u117 | 9 => u118 | 10 => u119 | 11 => u120 | 12 => u121 | 13 => u122 | 14 => u123 | _ => undef) (by simp [fillV, put_someT, setIfInBounds_toArray, set_cons_zero, set_cons_succ]) ?_ ?_
          ·intro i o vs W hi ho he hBW K hK
           simp only [take_succ_cons, take_zero, fillV, put_someT, setIfInBounds_toArray, set_cons_zero, set_cons_succ] at hK ⊢
           have L0W := Lib.hid ((hBW.cell (p := ⟨lb, lo + ii * 2, none⟩) HLBQ.out).trans L0Q.out)
           have L1W := Lib.hid ((hBW.cell (p := ⟨lb, lo + ii * 2 + 1, none⟩) HLBQ.out).trans L1Q.out)
           have K0W := Lib.hid ((hBW.cell (p := ⟨lb, lo + kk * 2, none⟩) HLBQ.out).trans K0Q.out)
           have K1W := Lib.hid ((hBW.cell (p := ⟨lb, lo + kk * 2 + 1, none⟩) HLBQ.out).trans K1Q.out)
           have POW := Lib.hid (POC.out W (B3a.out.trans (hBW.mono B3a.out.size)))
           obtain rfl | rfl | rfl | rfl | rfl | rfl | rfl | rfl | rfl | rfl | rfl | rfl | rfl | rfl | rfl := (show i = 0 ∨ i = 1 ∨ i = 2 ∨ i = 3 ∨ i = 4 ∨ i = 5 ∨ i = 6 ∨ i = 7 ∨ i = 8 ∨ i = 9 ∨ i = 10 ∨ i = 11 ∨ i = 12 ∨ i = 13 ∨ i = 14 by exact (by have : i < 15 := hi; omega))
           ·simp only [getElem?_toArray, getElem?_cons_zero, getElem?_cons_succ, Option.some.injEq] at ho
            subst ho
            rw [if_pos (by rfl)]
            simp only [put_someT, setIfInBounds_toArray, set_cons_zero, set_cons_succ] at hK
            have HK := Lib.hid hK
            clear hK he hi hBW
            go_simp
            exact HK.out _ _ (by first | rfl | simp [la25T]) (Below.refl _ _)
           ·simp only [getElem?_toArray, getElem?_cons_zero, getElem?_cons_succ, Option.some.injEq] at ho
            subst ho
            have e0 : vs 0 = .bool true := (he ⟨0, .data⟩ (by simp) rfl : la25T P lb lo ln lc ii kk n1 m2 ov 0 (vs 0) W)
            rw [e0] at hK ⊢
            rw [if_pos (by rfl)]
            simp only [put_someT, setIfInBounds_toArray, set_cons_zero, set_cons_succ] at hK
            have HK := Lib.hid hK
            clear hK he hi hBW
            go_simp
            exact HK.out _ _ (by first | rfl | simp [la25T]) (Below.refl _ _)
           ·simp only [getElem?_toArray, getElem?_cons_zero, getElem?_cons_succ, Option.some.injEq] at ho
            subst ho
            have e1 : vs 1 = .bool true := (he ⟨1, .guard⟩ (by simp) rfl : la25T P lb lo ln lc ii kk n1 m2 ov 1 (vs 1) W)
            rw [e1] at hK ⊢
            rw [if_neg (by exact Bool.false_ne_true)]
            exact hK _ _ rfl (Below.refl _ _)
           ·simp only [getElem?_toArray, getElem?_cons_zero, getElem?_cons_succ, Option.some.injEq] at ho
            subst ho
            have e1 : vs 1 = .bool true := (he ⟨1, .guard⟩ (by simp) rfl : la25T P lb lo ln lc ii kk n1 m2 ov 1 (vs 1) W)
            rw [e1] at hK ⊢
            rw [if_neg (by exact Bool.false_ne_true)]
            exact hK _ _ rfl (Below.refl _ _)
           ·simp only [getElem?_toArray, getElem?_cons_zero, getElem?_cons_succ, Option.some.injEq] at ho
            subst ho
            have e1 : vs 1 = .bool true := (he ⟨1, .guard⟩ (by simp) rfl : la25T P lb lo ln lc ii kk n1 m2 ov 1 (vs 1) W)
            rw [e1] at hK ⊢
            rw [if_neg (by exact Bool.false_ne_true)]
            exact hK _ _ rfl (Below.refl _ _)
           ·simp only [getElem?_toArray, getElem?_cons_zero, getElem?_cons_succ, Option.some.injEq] at ho
            subst ho
            have e3 : vs 3 = undef := (he ⟨3, .data⟩ (by simp) rfl : la25T P lb lo ln lc ii kk n1 m2 ov 3 (vs 3) W)
            rw [e3] at hK ⊢
            have e4 : vs 4 = undef := (he ⟨4, .data⟩ (by simp) rfl : la25T P lb lo ln lc ii kk n1 m2 ov 4 (vs 4) W)
            rw [e4] at hK ⊢
            have e1 : vs 1 = .bool true := (he ⟨1, .guard⟩ (by simp) rfl : la25T P lb lo ln lc ii kk n1 m2 ov 1 (vs 1) W)
            rw [e1] at hK ⊢
            rw [if_neg (by exact Bool.false_ne_true)]
            exact hK _ _ rfl (Below.refl _ _)
           ·simp only [getElem?_toArray, getElem?_cons_zero, getElem?_cons_succ, Option.some.injEq] at ho
            subst ho
            have e5 : vs 5 = undef := (he ⟨5, .data⟩ (by simp) rfl : la25T P lb lo ln lc ii kk n1 m2 ov 5 (vs 5) W)
            rw [e5] at hK ⊢
            have e1 : vs 1 = .bool true := (he ⟨1, .guard⟩ (by simp) rfl : la25T P lb lo ln lc ii kk n1 m2 ov 1 (vs 1) W)
            rw [e1] at hK ⊢
            rw [if_neg (by exact Bool.false_ne_true)]
            exact hK _ _ rfl (Below.refl _ _)
           ·simp only [getElem?_toArray, getElem?_cons_zero, getElem?_cons_succ, Option.some.injEq] at ho
            subst ho
            have e6 : vs 6 = undef := (he ⟨6, .data⟩ (by simp) rfl : la25T P lb lo ln lc ii kk n1 m2 ov 6 (vs 6) W)
            rw [e6] at hK ⊢
            have e1 : vs 1 = .bool true := (he ⟨1, .guard⟩ (by simp) rfl : la25T P lb lo ln lc ii kk n1 m2 ov 1 (vs 1) W)
            rw [e1] at hK ⊢
            rw [if_neg (by exact Bool.false_ne_true)]
            exact hK _ _ rfl (Below.refl _ _)
           ·simp only [getElem?_toArray, getElem?_cons_zero, getElem?_cons_succ, Option.some.injEq] at ho
            subst ho
            have e1 : vs 1 = .bool true := (he ⟨1, .guard⟩ (by simp) rfl : la25T P lb lo ln lc ii kk n1 m2 ov 1 (vs 1) W)
            rw [e1] at hK ⊢
            rw [if_neg (by exact Bool.false_ne_true)]
            exact hK _ _ rfl (Below.refl _ _)
           ·simp only [getElem?_toArray, getElem?_cons_zero, getElem?_cons_succ, Option.some.injEq] at ho
            subst ho
            have e1 : vs 1 = .bool true := (he ⟨1, .guard⟩ (by simp) rfl : la25T P lb lo ln lc ii kk n1 m2 ov 1 (vs 1) W)
            rw [e1] at hK ⊢
            rw [if_neg (by exact Bool.false_ne_true)]
            exact hK _ _ rfl (Below.refl _ _)
           ·simp only [getElem?_toArray, getElem?_cons_zero, getElem?_cons_succ, Option.some.injEq] at ho
            subst ho
            have e8 : vs 8 = undef := (he ⟨8, .data⟩ (by simp) rfl : la25T P lb lo ln lc ii kk n1 m2 ov 8 (vs 8) W)
            rw [e8] at hK ⊢
            have e9 : vs 9 = undef := (he ⟨9, .data⟩ (by simp) rfl : la25T P lb lo ln lc ii kk n1 m2 ov 9 (vs 9) W)
            rw [e9] at hK ⊢
            have e1 : vs 1 = .bool true := (he ⟨1, .guard⟩ (by simp) rfl : la25T P lb lo ln lc ii kk n1 m2 ov 1 (vs 1) W)
            rw [e1] at hK ⊢
            rw [if_neg (by exact Bool.false_ne_true)]
            exact hK _ _ rfl (Below.refl _ _)
           ·simp only [getElem?_toArray, getElem?_cons_zero, getElem?_cons_succ, Option.some.injEq] at ho
            subst ho
            have e10 : vs 10 = undef := (he ⟨10, .data⟩ (by simp) rfl : la25T P lb lo ln lc ii kk n1 m2 ov 10 (vs 10) W)
            rw [e10] at hK ⊢
            have e1 : vs 1 = .bool true := (he ⟨1, .guard⟩ (by simp) rfl : la25T P lb lo ln lc ii kk n1 m2 ov 1 (vs 1) W)
            rw [e1] at hK ⊢
            rw [if_neg (by exact Bool.false_ne_true)]
            exact hK _ _ rfl (Below.refl _ _)
           ·simp only [getElem?_toArray, getElem?_cons_zero, getElem?_cons_succ, Option.some.injEq] at ho
            subst ho
            have e11 : vs 11 = undef := (he ⟨11, .data⟩ (by simp) rfl : la25T P lb lo ln lc ii kk n1 m2 ov 11 (vs 11) W)
            rw [e11] at hK ⊢
            have e1 : vs 1 = .bool true := (he ⟨1, .guard⟩ (by simp) rfl : la25T P lb lo ln lc ii kk n1 m2 ov 1 (vs 1) W)
            rw [e1] at hK ⊢
            rw [if_neg (by exact Bool.false_ne_true)]
            exact hK _ _ rfl (Below.refl _ _)
           ·simp only [getElem?_toArray, getElem?_cons_zero, getElem?_cons_succ, Option.some.injEq] at ho
            subst ho
            have e2 : vs 2 = undef := (he ⟨2, .data⟩ (by simp) rfl : la25T P lb lo ln lc ii kk n1 m2 ov 2 (vs 2) W)
            rw [e2] at hK ⊢
            have e7 : vs 7 = undef := (he ⟨7, .data⟩ (by simp) rfl : la25T P lb lo ln lc ii kk n1 m2 ov 7 (vs 7) W)
            rw [e7] at hK ⊢
            have e12 : vs 12 = undef := (he ⟨12, .data⟩ (by simp) rfl : la25T P lb lo ln lc ii kk n1 m2 ov 12 (vs 12) W)
            rw [e12] at hK ⊢
            have e1 : vs 1 = .bool true := (he ⟨1, .guard⟩ (by simp) rfl : la25T P lb lo ln lc ii kk n1 m2 ov 1 (vs 1) W)
            rw [e1] at hK ⊢
            rw [if_neg (by exact Bool.false_ne_true)]
            exact hK _ _ rfl (Below.refl _ _)
           ·simp only [getElem?_toArray, getElem?_cons_zero, getElem?_cons_succ, Option.some.injEq] at ho
            subst ho
            have e1 : vs 1 = .bool true := (he ⟨1, .data⟩ (by simp) rfl : la25T P lb lo ln lc ii kk n1 m2 ov 1 (vs 1) W)
            rw [e1] at hK ⊢
            have e13 : vs 13 = undef := (he ⟨13, .data⟩ (by simp) rfl : la25T P lb lo ln lc ii kk n1 m2 ov 13 (vs 13) W)
            rw [e13] at hK ⊢
            rw [if_pos (by rfl)]
            simp only [put_someT, setIfInBounds_toArray, set_cons_zero, set_cons_succ] at hK
            have HK := Lib.hid hK
            clear hK he hi hBW
            go_simp
            exact HK.out _ _ (by first | rfl | simp [la25T]) (Below.refl _ _)
          ·intro vs Wb hall hBW
           have e14 : vs 14 = .bool true := (hall 14 (by decide) : la25T P lb lo ln lc ii kk n1 m2 ov 14 (vs 14) Wb)
           simp only [take_succ_cons, take_zero, List.drop_succ_cons, List.drop_zero, fillV, put_someT, put_noneC, setIfInBounds_toArray, set_cons_zero, set_cons_succ]
           rw [e14]
           generalize vs 0 = z0
           generalize vs 1 = z1
           generalize vs 2 = z2
           generalize vs 3 = z3
           generalize vs 4 = z4
           generalize vs 5 = z5
           generalize vs 6 = z6
           generalize vs 7 = z7
           generalize vs 8 = z8
           generalize vs 9 = z9
           generalize vs 10 = z10
           generalize vs 11 = z11
           generalize vs 12 = z12
           generalize vs 13 = z13
           have B6b := Lib.hid (B6a.out.trans (hBW.mono B6a.out.size))
           have HOR := Lib.hid (show oth I0 L.length S n1 obf (kk + 1) = true from by rw [HO2.out]; rfl)
           have j1 := J1.out
           clear hall hBW e14 HO2 B6a B3a POC OBV
           go_wp2_with fail
           go_roundw
           case rel => exact ⟨kk + 1, by omega, by go_num, by rw [HNR.out], by rw [HOR.out], B6b.out⟩
           case measure => simp [intOf]; omega
    ·obtain rfl : kk = ln := by omega
     have j2 : ¬ (kk : Int) < (kk : Int) := by omega
     have HCL := Lib.hid (show kk = (St.chgs I0 S 0 L.length).length from by rw [← HLN.out, stepsV_len HL1.out HBL.out])
     have HLK := Lib.hid (show labelOk (knd L I0 S n1) nb ob = true from by
      have h := label_steps (S := S) HL1.out n1
      rw [← HNF.out, ← HOF.out, ← oth_all HCL.out, ← oth_all HCL.out, HNB.out, HOB.out] at h
      exact h)
     obtain ⟨b1, o1, hA1', hlb1, l0, l1⟩ := LRX.out.st_at hil
     cases hA1'
     have l08 : wx.cell? ⟨lb, lo + ii * 2, none⟩ = some (.int .u8 (knd L I0 S n1)) := by rw [l0, HD1.out]
     generalize knd L I0 S n1 = kd at *
     have B4X := Lib.hid (B46.out.trans (BX.out.mono B46.out.size))
     have hc := label_cases HLK.out
     clear l0 l1 hlb1 HNB HOB LRX HCL
     rcases hc with ⟨rfl | rfl | rfl | rfl, rfl⟩ | ⟨rfl | rfl, rfl, rfl⟩ | ⟨rfl | rfl, rfl, rfl⟩
     ·go_wp2_with fail
      go_roundw
      case rel => exact ⟨ii + 1, by omega, by go_num, B4X.out⟩
      case measure => simp [intOf]; omega
     ·go_wp2_with fail
      go_roundw
      case rel => exact ⟨ii + 1, by omega, by go_num, B4X.out⟩
      case measure => simp [intOf]; omega
     ·go_wp2_with fail
      go_roundw
      case rel => exact ⟨ii + 1, by omega, by go_num, B4X.out⟩
      case measure => simp [intOf]; omega
     ·go_wp2_with fail
      go_roundw
      case rel => exact ⟨ii + 1, by omega, by go_num, B4X.out⟩
      case measure => simp [intOf]; omega
     ·go_wp2_with fail
      go_roundw
      case rel => exact ⟨ii + 1, by omega, by go_num, B4X.out⟩
      case measure => simp [intOf]; omega
     ·go_wp2_with fail
      go_roundw
      case rel => exact ⟨ii + 1, by omega, by go_num, B4X.out⟩
      case measure => simp [intOf]; omega
     ·go_wp2_with fail
      go_roundw
      case rel => exact ⟨ii + 1, by omega, by go_num, B4X.out⟩
      case measure => simp [intOf]; omega
     ·go_wp2_with fail
      go_roundw
      case rel => exact ⟨ii + 1, by omega, by go_num, B4X.out⟩
      case measure => simp [intOf]; omega
  ·obtain rfl : ii = ln := by omega
   have j3 : ¬ (ii : Int) < (ii : Int) := by omega
   have BE := Lib.hid (BW4.out.trans (B4R.out.mono BW4.out.size))
   go_wp2_with fail
   go_ret
   exact ⟨rfl, BE.out⟩
end Go.Proofs.YtibeipmcggbbgaaGreatDoor
