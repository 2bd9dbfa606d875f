import Derived.Test.YteobmfpbgnmffaaGreatDoorTruthMoreRowG01
import Derived.Test.YteobmfpbgnmffaaGreatDoorTruthMoreRowG02
import Derived.Test.YteobmfpbgnmffaaGreatDoorTruthMoreRowG03
import Derived.Test.YteobmfpbgnmffaaGreatDoorTruthMoreRowG04
import Derived.Test.YteobmfpbgnmffaaGreatDoorTruthMoreRowG05
import Derived.Test.YteobmfpbgnmffaaGreatDoorTruthMoreRowG06
import Derived.Test.YteobmfpbgnmffaaGreatDoorTruthMoreRowG07
import Derived.Test.YteobmfpbgnmffaaGreatDoorTruthMoreRowG08
import Derived.Test.YteobmfpbgnmffaaGreatDoorTruthMoreRowG09
import Derived.Test.YteobmfpbgnmffaaGreatDoorTruthMoreRowG10
import Derived.Test.YteobmfpbgnmffaaGreatDoorTruthMoreRowG11
import Derived.Test.YteobmfpbgnmffaaGreatDoorTruthMoreRowG12
import Derived.Test.YteobmfpbgnmffaaGreatDoorTruthMoreRowG13
import Derived.Test.YteobmfpbgnmffaaGreatDoorTruthMoreRowG14
import Derived.Test.YteobmfpbgnmffaaGreatDoorTruthMoreRowG15
import Derived.Test.YteobmfpbgnmffaaGreatDoorTruthMoreRowG16
import Derived.Test.YteobmfpbgnmffaaGreatDoorTruthMoreRowG17
import Derived.Test.YteobmfpbgnmffaaGreatDoorTruthMoreRowG18
import Derived.Test.YteobmfpbgnmffaaGreatDoorTruthMoreRowG19
import Derived.Test.YteobmfpbgnmffaaGreatDoorTruthMoreRowG20
import Derived.Test.YteobmfpbgnmffaaGreatDoorTruthMoreRowG21
import Derived.Test.YteobmfpbgnmffaaGreatDoorTruthMoreRowG22
import Derived.Test.YteobmfpbgnmffaaGreatDoorTruthMoreRowG23
import Derived.Test.YteobmfpbgnmffaaGreatDoorTruthMoreRowG24
import Derived.Test.YteobmfpbgnmffaaGreatDoorTruthMoreRowG25
import Derived.Test.YteobmfpbgnmffaaGreatDoorTruthMoreRowG26
import Derived.Test.YteobmfpbgnmffaaGreatDoorTruthMoreRowG27
import Derived.Test.YteobmfpbgnmffaaGreatDoorTruthMoreRowG28
import Derived.Test.YteobmfpbgnmffaaGreatDoorTruthMoreRowG29
import Derived.Test.YteobmfpbgnmffaaGreatDoorTruthMoreRowG30
import Derived.Test.YteobmfpbgnmffaaGreatDoorTruthMoreRowG31
import Derived.Test.YteobmfpbgnmffaaGreatDoorTruthMoreRowG32
import Derived.Test.YteobmfpbgnmffaaGreatDoorTruthMoreRowG33
import Derived.Test.YteobmfpbgnmffaaGreatDoorTruthMoreRowG34
import Derived.Test.YteobmfpbgnmffaaGreatDoorTruthMoreRowG35
import Derived.Test.YteobmfpbgnmffaaGreatDoorTruthMoreRowG36
import Derived.Test.YteobmfpbgnmffaaGreatDoorTruthMoreRowG37
import Derived.Test.YteobmfpbgnmffaaGreatDoorTruthMoreRowG38
import Derived.Test.YteobmfpbgnmffaaGreatDoorTruthMoreRowG39
import Derived.Test.YteobmfpbgnmffaaGreatDoorTruthMoreRowG40
import Derived.Test.YteobmfpbgnmffaaGreatDoorTruthMoreRowG41
import Derived.Test.YteobmfpbgnmffaaGreatDoorTruthMoreRowG42
import Derived.Test.YteobmfpbgnmffaaGreatDoorTruthMoreRowG43
import Derived.Test.YteobmfpbgnmffaaGreatDoorTruthMoreRowG44
import Derived.Test.YteobmfpbgnmffaaGreatDoorTruthMoreRowG45
import Derived.Test.YteobmfpbgnmffaaGreatDoorTruthMoreRowG46
import Derived.Test.YteobmfpbgnmffaaGreatDoorTruthMoreRowG48
import Derived.WalkKit
import Derived.WalkSpells
import Derived.WalkLawsBesides
import Derived.Deep.AppendLies
import Derived.Deep.Draws
import Derived.Lib.Hide
import Derived.Lib.Strings
import Derived.Maps.AppendAt
import Derived.Deep.QuietTactic
import Derived.BigQuiet
import Derived.RangeFuncNested
import Derived.RangeFuncBound
import Derived.RangeFuncCalls
import Derived.RangeFuncLeaves
import Derived.RangeFuncBox
import Derived.Shelf.Abstract
import Derived.Shelf.RegionOpen
import Derived.OwnWalkIn
import Derived.TacticsInMore
import Derived.LoopNIn
import Derived.LoopIn
import Derived.StillTailTactics
import Derived.RegionTactic
import Derived.ChangeAlike
import Derived.Sort.Walk0
import Derived.Deep.RegionWith
import Derived.ProofKit
import Derived.OpenShut
import Derived.ShutString
import Derived.ChangeOld
import Derived.SizedLaws
import Derived.SliceStrings
import Derived.ChangeSame
import Derived.Lib.SmallJoins
import Derived.Lib.SplitLaws
import Derived.Lib.ItoaNum
import Derived.Lib.AtoiAll
import Derived.Lib.IndexMore
import Derived.Lib.AppendIntMem
import Derived.Deep.RegionHeld3
import Derived.Maps.RangeWalk
import Derived.Maps.StringElems
import Derived.Maps.OwnOps
import Derived.Lib.Split
import Derived.Lib.Join
import Derived.Laws.RangeAny
import Derived.Deep.RegionLaw
import Derived.Laws.IdiomStrings
import Derived.Shelf.Strings.BuilderX
import Derived.Lib.Builder
import Derived.Lib.AppendStr
import Derived.Lib.UnsafeStr
import Derived.Laws.Externs
import Derived.Defers
import Derived.Recover
import Derived.Orders
import Derived.OrdersHeld
import Derived.ArgAppend
import Derived.Laws.EntriesVeiled
import Derived.Deep.Cut
import Derived.Deep.WholeRow
import Derived.Maps.GroupsBeside
import Derived.Maps.OwnSet
import Derived.Laws.MakeOwn
import Derived.Lay
import Derived.LaidMore
import Derived.LaidLaws
import Derived.Lib.LaidIn
import Derived.Lib.LaidU8
import Derived.Lib.LaidTab
import Derived.JoinedOf
import Derived.SevenTiedAt
set_option linter.unusedSimpArgs false
set_option linter.unusedVariables false
/- RlPlain, RichPlain, RlWords, RichMem -/
set_option linter.unusedSimpArgs false
set_option linter.unusedVariables false
namespace Go.Proofs.YteobmfpbgnmffaaGreatDoor
section
/- The words of a text, in plain terms: brackets by themselves, longest runs of other bytes, spaces between. Nothing of the program here. -/


open Go.RowKit

end
section
/- Rich dependencies in plain terms: which are whole, their words, and what is read out of words. -/



open Go.RowKit

/- reading -/
/- what is read is whole, and its words stand there -/
theorem deepL_le {l : List RT} {d : Nat} : deepL l ≤ d ↔ ∀ t ∈ l, t.deep ≤ d := by
 induction l with
 | nil => simp [deepL]
 | cons a l ih => simp [deepL, Nat.max_le, ih]
/- what is refused, and where -/
/- words that are whole are read -/
/- the rich dependency of a text -/
end
section
/- Walks: lex.Words: the words of any text, or what is wrong where. -/


open Go.RowKit Go.Shelf
attribute [local go_sem] Oper.semAt_some

end
section
/- Rich dependencies and a reader of words in memory: trees in blocks of a kind; what a call leaves alone. -/





open Go.RowKit
set_option linter.unusedVariables false

section
variable {w0 W W' : World} {R e : Nat} {ws : List Tok} {n o : Nat} {A : Option Addr} {c : Nat}
end
end
end Go.Proofs.YteobmfpbgnmffaaGreatDoor

/- StPlain, TrPlain, IxPlain, StSmall -/
set_option linter.unusedSimpArgs false
set_option linter.unusedVariables false
namespace Go.Proofs.YteobmfpbgnmffaaGreatDoor
section
/- Plain law: what comes and goes from what is installed to a state, over whatever packages. -/


set_option linter.unusedVariables false
namespace St

section
variable (I : Nat) (nm ob : Nat → Nat → Bool) (cmp : Nat → Nat → Int) (S : List Int)
end
section
variable {I N : Nat} {nm ob : Nat → Nat → Bool} {cmp : Nat → Nat → Int} {S : List Int}
end
end St
end
section
/- Plain law: whether packages satisfy a rich dependency, and what follows. -/



open Go.RowKit Go.Shelf
set_option linter.unusedVariables false
namespace Tr

section
variable {N : Nat} {pv : Nat → Dp → Bool}
theorem anyN_congr {p q : Nat → Bool} (h : ∀ n, n < N → p n = q n) : anyN N p = anyN N q := by
 rw [Bool.eq_iff_iff, anyN_iff, anyN_iff]
 exact ⟨fun ⟨n, hn, e⟩ => ⟨n, hn, by rw [← h n hn]; exact e⟩, fun ⟨n, hn, e⟩ => ⟨n, hn, by rw [h n hn]; exact e⟩⟩
/- more packages -/
/- TruthTurned -/
theorem sat_and (d : Dp) (l : List RT) (inn : Nat → Bool) : sat N pv (.mk 2 d l) inn = l.all fun t => sat N pv t inn := by rw [sat, ← satL_all]; rfl
theorem sat_or (d : Dp) (l : List RT) (inn : Nat → Bool) : sat N pv (.mk 3 d l) inn = l.any fun t => sat N pv t inn := by rw [sat, ← satL_any]; rfl
theorem sat_if2 (d : Dp) (a b : RT) (inn : Nat → Bool) : sat N pv (.mk 4 d [a, b]) inn = (sat N pv a inn || !sat N pv b inn) := by
 rw [sat]
 show (if sat N pv b inn then sat N pv a inn else (true || false)) = _
 cases sat N pv b inn <;> cases sat N pv a inn <;> rfl
theorem sat_un2 (d : Dp) (a b : RT) (inn : Nat → Bool) : sat N pv (.mk 5 d [a, b]) inn = (sat N pv a inn && !sat N pv b inn) := by
 rw [sat]
 show (if sat N pv b inn then (false && false) else sat N pv a inn) = _
 cases sat N pv b inn <;> cases sat N pv a inn <;> rfl
theorem sat_if3 (d : Dp) (a b c : RT) (inn : Nat → Bool) : sat N pv (.mk 4 d [a, b, c]) inn = (sat N pv b inn && sat N pv a inn || !sat N pv b inn && sat N pv c inn) := by
 rw [sat]
 show (if sat N pv b inn then sat N pv a inn else (false || sat N pv c inn)) = _
 cases sat N pv b inn <;> cases sat N pv a inn <;> cases sat N pv c inn <;> rfl
theorem sat_un3 (d : Dp) (a b c : RT) (inn : Nat → Bool) : sat N pv (.mk 5 d [c, b, a]) inn = (sat N pv b inn && sat N pv a inn || !sat N pv b inn && sat N pv c inn) := by
 rw [sat]
 show (if sat N pv b inn then (true && sat N pv a inn) else sat N pv c inn) = _
 cases sat N pv b inn <;> cases sat N pv a inn <;> cases sat N pv c inn <;> rfl
theorem sat_with3 (d : Dp) (a b c : RT) (inn : Nat → Bool) : sat N pv (.mk 6 d [a, b, c]) inn = sat N pv (.mk 6 d [c, b, a]) inn := by
 rw [sat, sat]
 refine anyN_congr fun n hn => ?_
 show (inn n && (sat N pv a (one n) && (sat N pv b (one n) && (sat N pv c (one n) && true)))) = (inn n && (sat N pv c (one n) && (sat N pv b (one n) && (sat N pv a (one n) && true))))
 cases sat N pv a (one n) <;> cases sat N pv b (one n) <;> cases sat N pv c (one n) <;> rfl
theorem whole_with3 (d : Dp) (a b c : RT) : (RT.mk 6 d [a, b, c]).whole = (RT.mk 6 d [c, b, a]).whole := by
 have h1 : (RT.mk 6 d [a, b, c]).okB = (RT.mk 6 d [c, b, a]).okB := by
  simp only [RT.okB, okL, List.length_cons, List.length_nil]
  cases a.okB <;> cases b.okB <;> cases c.okB <;> rfl
 have h2 : (RT.mk 6 d [a, b, c]).parts = (RT.mk 6 d [c, b, a]).parts := by simp only [RT.parts, partsL]; omega
 have h3 : (RT.mk 6 d [a, b, c]).deep = (RT.mk 6 d [c, b, a]).deep := by
  simp only [RT.deep, deepL, show ¬ (6 : Int) = 1 by decide, if_false]
  omega
 unfold RT.whole
 rw [h1, h2, h3]
/-- of what is whole each part is -/
theorem whole_arg {k : Int} {d : Dp} {l : List RT} (hk : k ≠ 1) (h : (RT.mk k d l).whole = true) {t : RT} (ht : t ∈ l) : t.whole = true := by
 unfold RT.whole at h ⊢
 rw [Bool.and_eq_true, decide_eq_true_eq] at h ⊢
 obtain ⟨h1, h2, h3⟩ := h
 rw [RT.okB, if_neg hk] at h1
 simp only [Bool.and_eq_true] at h1
 have ho := okL_iff.1 h1.2.2.2 t ht
 have hp : 1 + partsL l ≤ 24 := h2
 have hd : deepL l + 1 ≤ 8 := by rw [RT.deep, if_neg hk] at h3; exact h3
 have hpt : t.parts ≤ partsL l := by
  clear h1 h2 h3 hp hd ho
  induction l with
  | nil => cases ht
  | cons a l ih =>
   show t.parts ≤ a.parts + partsL l
   rcases List.mem_cons.1 ht with rfl | h
   ·omega
   ·have := ih h; omega
 have hdt := deepL_le.1 (Nat.le_refl (deepL l)) t ht
 exact ⟨ho, by omega, by omega⟩
end
end Tr
end
section
/- Plain law: by what names a package is offered, and who provides a dependency by an index of these. -/




open Go.RowKit Go.Shelf Go.Maps
set_option linter.unusedVariables false

end
section
/- Walks: the small functions of the steps' statements. -/



open Go.RowKit Go.Shelf
set_option linter.unusedVariables false

end
end Go.Proofs.YteobmfpbgnmffaaGreatDoor

/- TrMeas -/
set_option linter.unusedSimpArgs false
set_option linter.unusedVariables false
/- Walks: is a rich dependency whole (rich.measure, rich.Whole). -/


namespace Go.Proofs.YteobmfpbgnmffaaGreatDoor
open Go.RowKit Go.Shelf
set_option linter.unusedVariables false

theorem whole_okB {t : RT} (h : t.whole = true) : t.okB = true := by unfold RT.whole at h; simp only [Bool.and_eq_true] at h; exact h.1
end Go.Proofs.YteobmfpbgnmffaaGreatDoor

/- TrPl, TrTurnP, TrTurnM, St14Much, St14Large -/
set_option linter.unusedSimpArgs false
set_option linter.unusedVariables false
namespace Go.Proofs.YteobmfpbgnmffaaGreatDoor
section
/- Walks: neither If nor Unless; what a statement of truth makes (chandlerylaw14: plain, made). -/



open Go.RowKit Go.Shelf
set_option linter.unusedVariables false

end
section
/- Plain law: TruthTurned: what the seven turned ones come to. -/


open Go.RowKit Go.Shelf
set_option linter.unusedVariables false
namespace Tr

section
variable {N : Nat} {pv : Nat → Dp → Bool} {S : List Int} {d : Dp} {a b c : RT}
theorem satS_whole {t : RT} (h : t.whole = true) : satS N pv S t = sat N pv t (St.inS S) := by unfold satS; rw [h, Bool.true_and]
theorem turn_and (h : (RT.mk 2 d [a, b, c]).whole = true) : satS N pv S (.mk 2 d [a, b, c]) = (satS N pv S a && satS N pv S b && satS N pv S c) := by
 rw [satS_whole h, sat_and, satS_whole (whole_arg (t := a) (by decide) h (by simp)), satS_whole (whole_arg (t := b) (by decide) h (by simp)), satS_whole (whole_arg (t := c) (by decide) h (by simp))]
 simp [Bool.and_assoc]
theorem turn_and2 (h : (RT.mk 2 d [c, a, b]).whole = true) : satS N pv S (.mk 2 d [c, a, b]) = (satS N pv S a && satS N pv S b && satS N pv S c) := by
 rw [turn_and h]
 cases satS N pv S a <;> cases satS N pv S b <;> cases satS N pv S c <;> rfl
theorem turn_or (h : (RT.mk 3 d [b, c, a]).whole = true) : satS N pv S (.mk 3 d [b, c, a]) = (satS N pv S a || satS N pv S b || satS N pv S c) := by
 rw [satS_whole h, sat_or, satS_whole (whole_arg (t := a) (by decide) h (by simp)), satS_whole (whole_arg (t := b) (by decide) h (by simp)), satS_whole (whole_arg (t := c) (by decide) h (by simp))]
 simp only [List.any_cons, List.any_nil, Bool.or_false]
 cases sat N pv a (St.inS S) <;> cases sat N pv b (St.inS S) <;> cases sat N pv c (St.inS S) <;> rfl
theorem turn_if2 (h : (RT.mk 4 d [a, b]).whole = true) : satS N pv S (.mk 4 d [a, b]) = (satS N pv S a || !satS N pv S b) := by
 rw [satS_whole h, sat_if2, satS_whole (whole_arg (t := a) (by decide) h (by simp)), satS_whole (whole_arg (t := b) (by decide) h (by simp))]
theorem turn_un2 (h : (RT.mk 5 d [a, b]).whole = true) : satS N pv S (.mk 5 d [a, b]) = (satS N pv S a && !satS N pv S b) := by
 rw [satS_whole h, sat_un2, satS_whole (whole_arg (t := a) (by decide) h (by simp)), satS_whole (whole_arg (t := b) (by decide) h (by simp))]
theorem turn_if3 (h : (RT.mk 4 d [a, b, c]).whole = true) : satS N pv S (.mk 4 d [a, b, c]) = (satS N pv S b && satS N pv S a || !satS N pv S b && satS N pv S c) := by
 rw [satS_whole h, sat_if3, satS_whole (whole_arg (t := a) (by decide) h (by simp)), satS_whole (whole_arg (t := b) (by decide) h (by simp)), satS_whole (whole_arg (t := c) (by decide) h (by simp))]
theorem turn_un3 (h : (RT.mk 5 d [c, b, a]).whole = true) : satS N pv S (.mk 5 d [c, b, a]) = (satS N pv S b && satS N pv S a || !satS N pv S b && satS N pv S c) := by
 rw [satS_whole h, sat_un3, satS_whole (whole_arg (t := a) (by decide) h (by simp)), satS_whole (whole_arg (t := b) (by decide) h (by simp)), satS_whole (whole_arg (t := c) (by decide) h (by simp))]
theorem turn_with : satS N pv S (.mk 6 d [a, b, c]) = satS N pv S (.mk 6 d [c, b, a]) := by
 unfold satS
 rw [whole_with3, sat_with3]
end
end Tr
end
section
/- TruthTurned: the rows of Args, what of(..) makes of them, and the seven turned ones as they lie. -/





open Go.RowKit Go.Shelf
set_option linter.unusedVariables false

theorem wifT_yes {c : Prop} [Decidable c] {a b : Prop} (h : c) (k : a) : if c then a else b := by rw [if_pos h]; exact k
theorem wifT_no {c : Prop} [Decidable c] {a b : Prop} (h : ¬ c) (k : b) : if c then a else b := by rw [if_neg h]; exact k
/-- what is asked of the seven: what each is, and what it comes to -/
def turnedL (a b c : RT) (x y z : Bool) : List (RT × Bool) :=
 [(.mk 2 zeroT [a, b, c], x && y && z), (.mk 2 zeroT [c, a, b], x && y && z), (.mk 3 zeroT [b, c, a], x || y || z), (.mk 4 zeroT [a, b], x || !y), (.mk 5 zeroT [a, b], x && !y), (.mk 4 zeroT [a, b, c], y && x || !y && z), (.mk 5 zeroT [c, b, a], y && x || !y && z)]
theorem turned_all {N : Nat} {pv : Nat → Dp → Bool} {S : List Int} {a b c : RT} {p : RT × Bool} (hp : p ∈ turnedL a b c (Tr.satS N pv S a) (Tr.satS N pv S b) (Tr.satS N pv S c)) (h : p.1.whole = true) : Tr.satS N pv S p.1 = p.2 := by
 simp only [turnedL, List.mem_cons, List.not_mem_nil, or_false] at hp
 rcases hp with rfl | rfl | rfl | rfl | rfl | rfl | rfl
 ·exact Tr.turn_and h
 ·exact Tr.turn_and2 h
 ·exact Tr.turn_or h
 ·exact Tr.turn_if2 h
 ·exact Tr.turn_un2 h
 ·exact Tr.turn_if3 h
 ·exact Tr.turn_un3 h
theorem turned_parts {a b c : RT} {x y z : Bool} {p : RT × Bool} (hp : p ∈ turnedL a b c x y z) (ha : a.parts ≤ 2000) (hb : b.parts ≤ 2000) (hc : c.parts ≤ 2000) : p.1.parts ≤ 1000000 := by
 simp only [turnedL, List.mem_cons, List.not_mem_nil, or_false] at hp
 rcases hp with rfl | rfl | rfl | rfl | rfl | rfl | rfl <;> simp only [RT.parts, partsL] <;> omega
def encRB (x : RV × Bool) : List Value := encR x.1 ++ [.bool x.2]
theorem encRB_len (x : RV × Bool) : (encRB x).length = 8 := rfl
/-- a row of Args of its own, as it lies -/
def ArgsAt (l : List RV) (v : Value) (W : World) : Prop := ∃ g, v = .slice (some ⟨g, 0, none⟩) l.length l.length ∧ ∀ k, RTree W.heap.size W (.node k zeroT (some ⟨g, 0, none⟩) l.length l)
theorem ArgsAt.then {l : List RV} {v : Value} {W W' : World} (h : ArgsAt l v W) (hb : Below W.heap.size W W') : ArgsAt l v W' := by
 obtain ⟨g, e, h2⟩ := h
 exact ⟨g, e, fun k => ((h2 k).keeps hb).more hb.size⟩
theorem ArgsAt.made {l : List RV} {W : World} {cs : Array Value} (hcs : cs.toList = l.flatMap encR) (hn : l.length ≤ 100) (h : ∀ t ∈ l, RTree W.heap.size W t) : ArgsAt l (.slice (some ⟨W.heap.size, 0, none⟩) l.length l.length) (W.alloc (.cells cs 39)) :=
 ⟨W.heap.size, rfl, fun k => lit_tree rfl hcs (by unfold maxLen; omega) h⟩
/-- what of(k, l) comes to -/
def OfR (k : Int) (l : List RV) (v : Value) (W : World) : Prop := ∃ g, v = .agg #[.int .u8 k, .string ⟨#[]⟩, .int .u8 0, .int .i64 0, .string ⟨#[]⟩, .string ⟨#[]⟩, .slice (some ⟨g, 0, none⟩) l.length l.length] ∧ RTree W.heap.size W (.node k zeroT (some ⟨g, 0, none⟩) l.length l)
theorem OfR.then {k : Int} {l : List RV} {v : Value} {W W' : World} (h : OfR k l v W) (hb : Below W.heap.size W W') : OfR k l v W' := by
 obtain ⟨g, e, h2⟩ := h
 exact ⟨g, e, (h2.keeps hb).more hb.size⟩
/-- one of the seven, as it is built -/
def OfP (k : Int) (l : List RV) (b : Bool) (v : Value) (W : World) : Prop := ∃ g, v = .agg #[.int .u8 k, .string ⟨#[]⟩, .int .u8 0, .int .i64 0, .string ⟨#[]⟩, .string ⟨#[]⟩, .slice (some ⟨g, 0, none⟩) l.length l.length, .bool b] ∧ RTree W.heap.size W (.node k zeroT (some ⟨g, 0, none⟩) l.length l)
theorem OfP.then {k : Int} {l : List RV} {b : Bool} {v : Value} {W W' : World} (h : OfP k l b v W) (hb : Below W.heap.size W W') : OfP k l b v W' := by
 obtain ⟨g, e, h2⟩ := h
 exact ⟨g, e, (h2.keeps hb).more hb.size⟩
theorem all3T {P : RV → Prop} {a b c : RV} (ha : P a) (hb : P b) (hc : P c) : ∀ t ∈ [a, b, c], P t := by
 intro t ht
 simp only [List.mem_cons, List.not_mem_nil, or_false] at ht
 rcases ht with e | e | e <;> rw [e] <;> assumption
theorem all2T {P : RV → Prop} {a b : RV} (ha : P a) (hb : P b) : ∀ t ∈ [a, b], P t := by
 intro t ht
 simp only [List.mem_cons, List.not_mem_nil, or_false] at ht
 rcases ht with e | e <;> rw [e] <;> assumption
/-- the seven in their row -/
def PairsAt (a b c : RV) (x y z : Bool) (v : Value) (W : World) : Prop := ∃ (G : Option Addr) (l : List (RV × Bool)), v = .slice G 7 7 ∧ l.length = 7 ∧ Rd encRB 8 W.heap.size G 7 l W ∧ (∀ p ∈ l, RTree W.heap.size W p.1) ∧ l.map (fun p => (p.1.tree, p.2)) = turnedL a.tree b.tree c.tree x y z
theorem PairsAt.then {a b c : RV} {x y z : Bool} {v : Value} {W W' : World} (h : PairsAt a b c x y z v W) (hb : Below W.heap.size W W') : PairsAt a b c x y z v W' := by
 obtain ⟨G, l, e, hl, hr, ht, hm⟩ := h
 exact ⟨G, l, e, hl, (hr.below hb).more hb.size, fun p hp => ((ht p hp).keeps hb).more hb.size, hm⟩
abbrev ofN (k : Int) (g : Nat) (l : List RV) : RV := .node k zeroT (some ⟨g, 0, none⟩) l.length l
theorem PairsAt.made {a b c : RV} {x y z : Bool} {W : World} {g0 g1 g2 g3 g4 g5 g6 : Nat} {t : TypeId} (h0 : RTree W.heap.size W (ofN 2 g0 [a, b, c])) (h1 : RTree W.heap.size W (ofN 2 g1 [c, a, b])) (h2 : RTree W.heap.size W (ofN 3 g2 [b, c, a])) (h3 : RTree W.heap.size W (ofN 4 g3 [a, b])) (h4 : RTree W.heap.size W (ofN 5 g4 [a, b])) (h5 : RTree W.heap.size W (ofN 4 g5 [a, b, c])) (h6 : RTree W.heap.size W (ofN 5 g6 [c, b, a])) {v0 v1 v2 v3 v4 v5 v6 : Bool} (e0 : v0 = (x && y && z)) (e1 : v1 = (x && y && z)) (e2 : v2 = (x || y || z)) (e3 : v3 = (x || !y)) (e4 : v4 = (x && !y)) (e5 : v5 = (y && x || !y && z)) (e6 : v6 = (y && x || !y && z)) {cs : Array Value} (hcs : cs = (([(ofN 2 g0 [a, b, c], v0), (ofN 2 g1 [c, a, b], v1), (ofN 3 g2 [b, c, a], v2), (ofN 4 g3 [a, b], v3), (ofN 5 g4 [a, b], v4), (ofN 4 g5 [a, b, c], v5), (ofN 5 g6 [c, b, a], v6)] : List (RV × Bool)).flatMap encRB).toArray) :
  PairsAt a b c x y z (.slice (some ⟨W.heap.size, 0, none⟩) 7 7) (W.alloc (.cells cs t)) := by
 subst hcs e0 e1 e2 e3 e4 e5 e6
 refine ⟨some ⟨W.heap.size, 0, none⟩, _, rfl, rfl, rd_litT encRB_len _ W t (by simp), ?_, rfl⟩
 intro p hp
 have key : RTree W.heap.size W p.1 := by
  simp only [List.mem_cons, List.not_mem_nil, or_false] at hp
  rcases hp with rfl | rfl | rfl | rfl | rfl | rfl | rfl
  ·exact h0
  ·exact h1
  ·exact h2
  ·exact h3
  ·exact h4
  ·exact h5
  ·exact h6
 exact (key.keeps ((Below.refl _ W).alloc (Nat.le_refl _) _)).more (by simp)
theorem Rd.pair_at {B : Nat} {A : Option Addr} {c : Nat} {D : List (RV × Bool)} {W : World} (h : Rd encRB 8 B A c D W) {k : Nat} (hk : k < D.length) : ∃ b o, A = some ⟨b, o, none⟩ ∧ b < B ∧ W.cell? ⟨b, o + k * 8, none⟩ = some (.int .u8 D[k].1.kind) ∧ W.cell? ⟨b, o + k * 8 + 1, none⟩ = some (.string (bs D[k].1.dep.name)) ∧ W.cell? ⟨b, o + k * 8 + 2, none⟩ = some (.int .u8 D[k].1.dep.op) ∧ W.cell? ⟨b, o + k * 8 + 3, none⟩ = some (.int .i64 D[k].1.dep.evr.epoch) ∧ W.cell? ⟨b, o + k * 8 + 4, none⟩ = some (.string (bs D[k].1.dep.evr.ver)) ∧ W.cell? ⟨b, o + k * 8 + 5, none⟩ = some (.string (bs D[k].1.dep.evr.rel)) ∧ W.cell? ⟨b, o + k * 8 + 6, none⟩ = some (.slice D[k].1.addr D[k].1.args.length D[k].1.cap) ∧ W.cell? ⟨b, o + k * 8 + 7, none⟩ = some (.bool D[k].2) := by
 obtain ⟨b, o, e, hb, hc⟩ := h.cells hk
 exact ⟨b, o, e, hb, hc 0 _ rfl, hc 1 _ rfl, hc 2 _ rfl, hc 3 _ rfl, hc 4 _ rfl, hc 5 _ rfl, hc 6 _ rfl, hc 7 _ rfl⟩
end
section
/- Walk: of how many parts rich dependencies are (chandlerylaw14.much). -/


open Go.RowKit Go.Shelf
set_option linter.unusedVariables false

end
section
/- Walk: whether a package is more than a statement goes over (chandlerylaw14.large). -/



open Go.RowKit Go.Shelf
set_option linter.unusedVariables false

end
end Go.Proofs.YteobmfpbgnmffaaGreatDoor
