import Derived.Test.YteobmfpbgnmffaaGreatDoorTruthMoreRowG01
import Derived.Test.YteobmfpbgnmffaaGreatDoorTruthMoreRowG02
import Derived.Test.YteobmfpbgnmffaaGreatDoorTruthMoreRowG03
import Derived.Test.YteobmfpbgnmffaaGreatDoorTruthMoreRowG04
import Derived.Test.YteobmfpbgnmffaaGreatDoorTruthMoreRowG05
import Derived.Test.YteobmfpbgnmffaaGreatDoorTruthMoreRowG06
import Derived.Test.YteobmfpbgnmffaaGreatDoorTruthMoreRowG07
import Derived.Test.YteobmfpbgnmffaaGreatDoorTruthMoreRowG08
import Derived.Test.YteobmfpbgnmffaaGreatDoorTruthMoreRowG09
import Derived.Test.YteobmfpbgnmffaaGreatDoorTruthMoreRowG10
import Derived.Test.YteobmfpbgnmffaaGreatDoorTruthMoreRowG11
import Derived.Test.YteobmfpbgnmffaaGreatDoorTruthMoreRowG12
import Derived.Test.YteobmfpbgnmffaaGreatDoorTruthMoreRowG13
import Derived.Test.YteobmfpbgnmffaaGreatDoorTruthMoreRowG14
import Derived.Test.YteobmfpbgnmffaaGreatDoorTruthMoreRowG15
import Derived.Test.YteobmfpbgnmffaaGreatDoorTruthMoreRowG16
import Derived.Test.YteobmfpbgnmffaaGreatDoorTruthMoreRowG17
import Derived.Test.YteobmfpbgnmffaaGreatDoorTruthMoreRowG18
import Derived.Test.YteobmfpbgnmffaaGreatDoorTruthMoreRowG19
import Derived.Test.YteobmfpbgnmffaaGreatDoorTruthMoreRowG20
import Derived.Test.YteobmfpbgnmffaaGreatDoorTruthMoreRowG21
import Derived.Test.YteobmfpbgnmffaaGreatDoorTruthMoreRowG22
import Derived.Test.YteobmfpbgnmffaaGreatDoorTruthMoreRowG23
import Derived.Test.YteobmfpbgnmffaaGreatDoorTruthMoreRowG24
import Derived.Test.YteobmfpbgnmffaaGreatDoorTruthMoreRowG25
import Derived.Test.YteobmfpbgnmffaaGreatDoorTruthMoreRowG26
import Derived.Test.YteobmfpbgnmffaaGreatDoorTruthMoreRowG27
import Derived.Test.YteobmfpbgnmffaaGreatDoorTruthMoreRowG28
import Derived.Test.YteobmfpbgnmffaaGreatDoorTruthMoreRowG29
import Derived.Test.YteobmfpbgnmffaaGreatDoorTruthMoreRowG30
import Derived.Test.YteobmfpbgnmffaaGreatDoorTruthMoreRowG31
import Derived.Test.YteobmfpbgnmffaaGreatDoorTruthMoreRowG32
import Derived.Test.YteobmfpbgnmffaaGreatDoorTruthMoreRowG33
import Derived.Test.YteobmfpbgnmffaaGreatDoorTruthMoreRowG34
import Derived.Test.YteobmfpbgnmffaaGreatDoorTruthMoreRowG35
import Derived.Test.YteobmfpbgnmffaaGreatDoorTruthMoreRowG36
import Derived.Test.YteobmfpbgnmffaaGreatDoorTruthMoreRowG37
import Derived.Test.YteobmfpbgnmffaaGreatDoorTruthMoreRowG38
import Derived.Test.YteobmfpbgnmffaaGreatDoorTruthMoreRowG39
import Derived.Test.YteobmfpbgnmffaaGreatDoorTruthMoreRowG40
import Derived.Test.YteobmfpbgnmffaaGreatDoorTruthMoreRowG41
import Derived.Test.YteobmfpbgnmffaaGreatDoorTruthMoreRowG42
import Derived.Test.YteobmfpbgnmffaaGreatDoorTruthMoreRowG43
import Derived.Test.YteobmfpbgnmffaaGreatDoorTruthMoreRowG44
import Derived.Test.YteobmfpbgnmffaaGreatDoorTruthMoreRowG45
import Derived.Test.YteobmfpbgnmffaaGreatDoorTruthMoreRowG46
import Derived.Test.YteobmfpbgnmffaaGreatDoorTruthMoreRowG47
import Derived.Test.YteobmfpbgnmffaaGreatDoorTruthMoreRowG48
import Derived.WalkKit
import Derived.WalkSpells
import Derived.WalkLawsBesides
import Derived.Deep.AppendLies
import Derived.Deep.Draws
import Derived.Lib.Hide
import Derived.Lib.Strings
import Derived.Maps.AppendAt
import Derived.Deep.QuietTactic
import Derived.BigQuiet
import Derived.RangeFuncNested
import Derived.RangeFuncBound
import Derived.RangeFuncCalls
import Derived.RangeFuncLeaves
import Derived.RangeFuncBox
import Derived.Shelf.Abstract
import Derived.Shelf.RegionOpen
import Derived.OwnWalkIn
import Derived.TacticsInMore
import Derived.LoopNIn
import Derived.LoopIn
import Derived.StillTailTactics
import Derived.RegionTactic
import Derived.ChangeAlike
import Derived.Sort.Walk0
import Derived.Deep.RegionWith
import Derived.ProofKit
import Derived.OpenShut
import Derived.ShutString
import Derived.ChangeOld
import Derived.SizedLaws
import Derived.SliceStrings
import Derived.ChangeSame
import Derived.Lib.SmallJoins
import Derived.Lib.SplitLaws
import Derived.Lib.ItoaNum
import Derived.Lib.AtoiAll
import Derived.Lib.IndexMore
import Derived.Lib.AppendIntMem
import Derived.Deep.RegionHeld3
import Derived.Maps.RangeWalk
import Derived.Maps.StringElems
import Derived.Maps.OwnOps
import Derived.Lib.Split
import Derived.Lib.Join
import Derived.Laws.RangeAny
import Derived.Deep.RegionLaw
import Derived.Laws.IdiomStrings
import Derived.Shelf.Strings.BuilderX
import Derived.Lib.Builder
import Derived.Lib.AppendStr
import Derived.Lib.UnsafeStr
import Derived.Laws.Externs
import Derived.Defers
import Derived.Recover
import Derived.Orders
import Derived.OrdersHeld
import Derived.ArgAppend
import Derived.Laws.EntriesVeiled
import Derived.Deep.Cut
import Derived.Deep.WholeRow
import Derived.Maps.GroupsBeside
import Derived.Maps.OwnSet
import Derived.Laws.MakeOwn
import Derived.Lib.SliceRun
import Derived.Deep.CutRange
import Derived.Lay
import Derived.LaidMore
import Derived.LaidLaws
import Derived.Lib.LaidIn
import Derived.Lib.LaidU8
import Derived.Lib.LaidTab
import Derived.JoinedOf
import Derived.SevenTiedAt
set_option linter.unusedSimpArgs false
set_option linter.unusedVariables false
/- SpRef, RowOpen, RowLaid, TRow, PkRow, EvPlain, EvWalk -/
set_option linter.unusedSimpArgs false
set_option linter.unusedVariables false
namespace Go.Proofs.YteobmfpbgnmffaaGreatDoor
section
/- Walks: span by the document. -/


open Go.RowKit Go.Shelf

end
section
/- How the arguments of a statement are opened: strings, integers, slices of strings, as the form's reading gives them. -/









open Go.ChangeShapes Go.WideShapes Go.ChangeAt Go.RowKit

section
variable {H : Type} {enc : TypeId × Value → H} {P : Program} {W : World} {held : Bool} {t e : TypeId} {d : DataW H} {p : List MemPlace}

theorem arg_int {r : Reach} {b0 : Nat} {v : Value} {sp : Nat → Bool} {k : IntKind} (ht : P.underlying t = some (.int k)) (hval : Value.okWide P W r b0 t v) (h : DataW.Trod enc P W 0 sp held t v d p) :
    ∃ n : Int, v = .int k n ∧ (Lit.int k n).wf = true := by
  obtain ⟨n, h1, _, _, h4⟩ := open_int ht hval h
  exact ⟨n, h1, h4⟩
end
end
section
/- How the arguments of the tied statements are opened: EVRs, dependencies. -/





open Go.ChangeShapes Go.WideShapes Go.ChangeAt Go.RowKit

section
variable {H : Type} {enc : TypeId × Value → H} {P : Program} {W : World} {held : Bool} {t ti ts tu te : TypeId} {f0 f1 f2 g0 g1 g2 : Field} {d : DataW H} {p : List MemPlace}

end
end
section
/- A slice of texts, wherever it lies. -/





open Go.RowKit

end
section
/- Packages in memory: dependencies in a row, rich dependencies as trees. -/



open Go.RowKit
set_option linter.unusedVariables false

end
section
/- EVRs as texts, in plain terms: words, digits, what stands ahead of a byte and behind it; the EVR of a text. -/





open Go.RowKit

/- digits -/
/- what stands ahead of a byte, and behind it -/
/- the EVR of a text: as the program looks for it -/
/- the EVR of a text: as the document looks for it -/
end
section
/- Walks: EVRs by the program: which may be, their texts, the EVR of a text. -/






open Go.RowKit Go.Shelf

/- a byte of a word -/
end
end Go.Proofs.YteobmfpbgnmffaaGreatDoor

/- RlPlain, RichPlain, RlWords, RichMem, RichSame, PkMuch2, PkLarge2, StSlim, EvRefW, DepMay -/
set_option linter.unusedSimpArgs false
set_option linter.unusedVariables false
namespace Go.Proofs.YteobmfpbgnmffaaGreatDoor
section
/- The words of a text, in plain terms: brackets by themselves, longest runs of other bytes, spaces between. Nothing of the program here. -/


open Go.RowKit

end
section
/- Rich dependencies in plain terms: which are whole, their words, and what is read out of words. -/



open Go.RowKit

def RT.kind : RT → Int | .mk k _ _ => k
/- reading -/
/- what is read is whole, and its words stand there -/
/- what is refused, and where -/
/- words that are whole are read -/
/- the rich dependency of a text -/
end
section
/- Walks: lex.Words: the words of any text, or what is wrong where. -/


open Go.RowKit Go.Shelf
attribute [local go_sem] Oper.semAt_some

end
section
/- Rich dependencies and a reader of words in memory: trees in blocks of a kind; what a call leaves alone. -/





open Go.RowKit
set_option linter.unusedVariables false

section
variable {w0 W W' : World} {R e : Nat} {ws : List Tok} {n o : Nat} {A : Option Addr} {c : Nat}
end
end
section
/- Walks: are two rich dependencies the same (chandleryref08.Same). -/






open Go.RowKit Go.Shelf
set_option linter.unusedVariables false

end
section
/- Walks: of how many parts rich dependencies are, told exactly (chandlerylaw10.much). -/



open Go.RowKit Go.Shelf
set_option linter.unusedVariables false

end
section
/- Walks: whether a package is more than a statement goes over (chandlerylaw10.large), with its parts counted. -/



open Go.RowKit Go.Shelf
set_option linter.unusedVariables false

end
section
/- A package that is not more than a statement goes over. -/



open Go.RowKit Go.Shelf
set_option linter.unusedVariables false

end
section
/- Walks: EVRs by the document: which may be, their texts. -/







open Go.RowKit Go.Shelf

end
section
/- Walks: which dependencies may be. -/





open Go.RowKit Go.Shelf

end
end Go.Proofs.YteobmfpbgnmffaaGreatDoor

/- StPlain, TrPlain, IxPlain, StSmall -/
set_option linter.unusedSimpArgs false
set_option linter.unusedVariables false
namespace Go.Proofs.YteobmfpbgnmffaaGreatDoor
section
/- Plain law: what comes and goes from what is installed to a state, over whatever packages. -/


set_option linter.unusedVariables false
namespace St

section
variable (I : Nat) (nm ob : Nat → Nat → Bool) (cmp : Nat → Nat → Int) (S : List Int)
end
section
variable {I N : Nat} {nm ob : Nat → Nat → Bool} {cmp : Nat → Nat → Int} {S : List Int}
end
end St
end
section
/- Plain law: whether packages satisfy a rich dependency, and what follows. -/



open Go.RowKit Go.Shelf
set_option linter.unusedVariables false
namespace Tr

section
variable {N : Nat} {pv : Nat → Dp → Bool}
theorem anyN_congr {p q : Nat → Bool} (h : ∀ n, n < N → p n = q n) : anyN N p = anyN N q := by
  rw [Bool.eq_iff_iff, anyN_iff, anyN_iff]
  exact ⟨fun ⟨n, hn, e⟩ => ⟨n, hn, by rw [← h n hn]; exact e⟩, fun ⟨n, hn, e⟩ => ⟨n, hn, by rw [h n hn]; exact e⟩⟩
theorem anyN_one {p : Nat → Bool} {n : Nat} (h : n < N) : anyN N (fun m => one n m && p m) = p n := by
  rw [Bool.eq_iff_iff, anyN_iff]
  constructor
  · rintro ⟨m, hm, e⟩
    rw [Bool.and_eq_true] at e
    have : m = n := by simpa [one] using e.1
    rw [← this]; exact e.2
  · intro e
    exact ⟨n, h, by simp [one, e]⟩
/- more packages -/
theorem alone_nat {n : Nat} (t : RT) : aloneS N pv (n : Int) t = (decide (n < N) && (t.whole && sat N pv t (one n))) := by
  unfold aloneS satS
  rw [inS_one, show decide (0 ≤ (n : Int)) = true by simp, Bool.true_and, show decide ((n : Int) < (N : Int)) = decide (n < N) by simp]
/-- TruthOne -/
theorem single_who {S : List Int} {t : RT} (hk : t.kind = 1 ∨ t.kind = 6 ∨ t.kind = 7) : satS N pv S t = decide (0 < (whoS N pv S t).length) := by
  have hw : decide (0 < (whoS N pv S t).length) = anyN N fun n => St.inS S n && aloneS N pv (n : Int) t := by
    rw [Bool.eq_iff_iff, decide_eq_true_eq, anyN_iff]
    unfold whoS
    rw [List.length_map]
    constructor
    · intro h
      obtain ⟨n, hn⟩ := List.exists_mem_of_length_pos h
      obtain ⟨h1, h2⟩ := List.mem_filter.1 hn
      exact ⟨n, List.mem_range.1 h1, h2⟩
    · rintro ⟨n, h1, h2⟩
      exact List.length_pos_of_mem (List.mem_filter.2 ⟨List.mem_range.2 h1, h2⟩)
  rw [hw]
  obtain ⟨k, d, l⟩ := t
  unfold satS
  cases hwh : (RT.mk k d l).whole
  · rw [Bool.false_and, eq_comm, Bool.eq_false_iff]
    intro h
    obtain ⟨n, hn, e⟩ := anyN_iff.1 h
    rw [alone_nat, hwh] at e
    simp at e
  · rw [Bool.true_and]
    have hk : k = 1 ∨ k = 6 ∨ k = 7 := hk
    have key : ∀ n, n < N → aloneS N pv (n : Int) (.mk k d l) = sat N pv (.mk k d l) (one n) := fun n hn => by rw [alone_nat, hwh, decide_eq_true hn]; simp
    rw [anyN_congr (p := fun n => St.inS S n && aloneS N pv (n : Int) (.mk k d l)) (q := fun n => St.inS S n && sat N pv (.mk k d l) (one n)) (fun n hn => by rw [key n hn])]
    rw [sat]
    rcases hk with rfl | rfl | rfl
    · refine anyN_congr fun n hn => ?_
      rw [sat]
      show (St.inS S n && pv n d) = (St.inS S n && anyN N fun m => one n m && pv m d)
      rw [anyN_one (p := fun m => pv m d) hn]
    · refine anyN_congr fun n hn => ?_
      rw [sat]
      show (St.inS S n && (satL N pv l (one n)).all id) = (St.inS S n && anyN N fun m => one n m && (satL N pv l (one m)).all id)
      rw [anyN_one (p := fun m => (satL N pv l (one m)).all id) hn]
    · refine anyN_congr fun n hn => ?_
      rw [sat]
      show (St.inS S n && ((satL N pv l (one n)).getD 0 false && !(satL N pv l (one n)).getD 1 false)) = (St.inS S n && anyN N fun m => one n m && ((satL N pv l (one m)).getD 0 false && !(satL N pv l (one m)).getD 1 false))
      rw [anyN_one (p := fun m => (satL N pv l (one m)).getD 0 false && !(satL N pv l (one m)).getD 1 false) hn]
/- TruthTurned -/
end
end Tr
end
section
/- Plain law: by what names a package is offered, and who provides a dependency by an index of these. -/




open Go.RowKit Go.Shelf Go.Maps
set_option linter.unusedVariables false

end
section
/- Walks: the small functions of the steps' statements. -/



open Go.RowKit Go.Shelf
set_option linter.unusedVariables false

end
end Go.Proofs.YteobmfpbgnmffaaGreatDoor

/- TrMeas -/
set_option linter.unusedSimpArgs false
set_option linter.unusedVariables false
/- Walks: is a rich dependency whole (rich.measure, rich.Whole). -/


namespace Go.Proofs.YteobmfpbgnmffaaGreatDoor
open Go.RowKit Go.Shelf
set_option linter.unusedVariables false

theorem whole_okB {t : RT} (h : t.whole = true) : t.okB = true := by unfold RT.whole at h; simp only [Bool.and_eq_true] at h; exact h.1
end Go.Proofs.YteobmfpbgnmffaaGreatDoor

/- StMade, TrSm, TrAw0, TrAw, TrPl, TrLess -/
set_option linter.unusedSimpArgs false
set_option linter.unusedVariables false
namespace Go.Proofs.YteobmfpbgnmffaaGreatDoor
section
/- A pool that a statement of the steps makes of packages that are not more than it goes over. -/



open Go.RowKit Go.Shelf
set_option linter.unusedVariables false

end
section
/- Walks: the small functions of truth's statements. -/




open Go.RowKit Go.Shelf
set_option linter.unusedVariables false

end
section
/- Walks: the examples of truth's statements (chandlerylaw14.awake). -/




open Go.RowKit Go.Shelf
set_option linter.unusedVariables false

end
section
/- Walk: the examples of truth's statements (chandlerylaw14.awake). -/


open Go.RowKit Go.Shelf
set_option linter.unusedVariables false

end
section
/- Walks: neither If nor Unless; what a statement of truth makes (chandlerylaw14: plain, made). -/



open Go.RowKit Go.Shelf
set_option linter.unusedVariables false

end
section
/- Walk: a state without a number (chandleryref14.Less). -/



open Go.RowKit Go.Shelf
set_option linter.unusedVariables false

/-- a row without a number -/
def lessV (D : List Int) (x : Int) : List Int := D.filter fun z => decide (z ≠ x)
theorem lessV_succ (D : List Int) (x : Int) {k : Nat} (hk : k < D.length) : lessV (D.take (k + 1)) x = lessV (D.take k) x ++ (if D[k] ≠ x then [D[k]] else []) := by
  unfold lessV
  rw [List.take_succ_eq_append_getElem hk, List.filter_append, List.filter_cons]
  congr 1
  by_cases h : D[k] = x
  · rw [if_neg (by simp [h]), if_neg (by simp [h])]; rfl
  · rw [if_pos (by simp [h]), if_pos h]; rfl
theorem lessV_len (D : List Int) (x : Int) : (lessV D x).length ≤ D.length := List.length_filter_le _ _
set_option maxRecDepth 100000 in
set_option maxHeartbeats 16000000 in
theorem less14_any (A : Option Addr) (c : Nat) (D : List Int) (x : Int) (w : World) (hD : D.length ≤ 100000) (h : Rd encI 1 w.heap.size A c D w) : Calls Tryz.prog 60 #[.slice A D.length c, .int .i64 x] w fun e w' => ∃ v, e = .returned v ∧ Own encI 1 w.heap.size 3 v (lessV D x) w' ∧ Below w.heap.size w w' := by
  have H := Lib.hid h
  obtain ⟨n, hn⟩ : ∃ n, n = D.length := ⟨_, rfl⟩
  rw [← hn] at hD ⊢
  have HN := Lib.hid hn
  have LS := Lib.hid (fun k (hk : k < D.length) => lessV_succ D x hk)
  have LL := Lib.hid (fun k => Nat.le_trans (lessV_len (D.take k) x) (show (D.take k).length ≤ k by rw [List.length_take]; omega))
  have LE := Lib.hid (show lessV (D.take n) x = lessV D x by rw [hn, List.take_length])
  obtain ⟨i0, hi, hz0, hz1, hz2⟩ := info_parts infoIntX
  clear h hn
  go_enter Tryz.func60, Tryz.ntmps60
  go_wp2_with fail
  go_loopw [5, 6] (fun v iv wr => ∃ k : Nat, k ≤ n ∧ iv = .int .i64 (k : Int) ∧ Own encI 1 w.heap.size 3 v (lessV (D.take k) x) wr ∧ Below w.heap.size w wr) (fun _ iv _ => n - (intOf iv).toNat)
  case atStart => exact ⟨0, Nat.zero_le _, rfl, Own.nil_ _ _ _, Below.refl _ _⟩
  case round =>
    obtain ⟨k, hk, rfl, how, hB⟩ := hrel
    rename World => wr
    have OW := Lib.hid how
    have HB := Lib.hid hB
    clear how
    by_cases hlt : k < n
    · have hkl : k < D.length := by have := HN.out; omega
      obtain ⟨b, o, hA, hb, e0⟩ := ((H.out.below hB).more hB.size).int_at hkl
      have WK := Lib.hid (LS.out k hkl)
      have WKL := Lib.hid (LL.out k)
      subst hA
      generalize D[k] = y at *
      have i0' : (0 : Int) ≤ (k : Int) := by omega
      have i1 : (k : Int) < (n : Int) := by omega
      clear hB hkl
      by_cases hy : y = x
      · subst hy
        have WK2 := Lib.hid (show lessV (D.take (k + 1)) y = lessV (D.take k) y from by rw [WK.out, if_neg (by simp), List.append_nil])
        clear WK
        go_wp2_with fail
        go_roundw
        case rel => exact ⟨k + 1, by omega, by go_num, by rw [WK2.out]; exact OW.out, HB.out⟩
        case measure => simp [intOf]; omega
      · have WK2 := Lib.hid (show lessV (D.take (k + 1)) x = lessV (D.take k) x ++ [y] from by rw [WK.out, if_pos hy])
        have hy2 : (y == x) = false := beq_eq_false_iff_ne.2 hy
        clear WK
        go_wp2_with (at_builtin; refine wpList_append_own _ rfl _ _ 42 rfl w.heap.size 3 i0 (.int .i64 0) 1 8 Tryz.underlying42 hi hz0 hz1 hz2 rfl (by decide) _ _ _ rfl (World.ownsRow.alloc OW.out _) ⟨wr.heap.size, 0, none⟩ 1 1 [.int .i64 y] rfl rfl ?c1 ?c2 ?c3 ?c4 ?c5 ?c6)
        case c1 => exact cell_one_new _ _ _
        case c2 => simp [Value.oneCell']
        case c3 => have := WKL.out; unfold maxLen; omega
        case c4 => have := WKL.out; omega
        case c5 => simp only [World.size_alloc]; have := HB.out.size; omega
        case c6 =>
          intro v' w6 ho6 hg6 _
          have B6' := Lib.hid ((HB.out.alloc HB.out.size _).grown hg6 (by simp only [World.size_alloc]; have := HB.out.size; omega) (fun j hj => (World.ownsRow.lt (World.ownsRow.alloc OW.out (.cells #[.int .i64 y] 3)) j hj).1))
          have OV6 := Lib.hid (Own.snoc (x := y) ho6)
          clear ho6 hg6 OW HB e0 hb
          go_wp2_with fail
          go_roundw
          case rel => exact ⟨k + 1, by omega, by go_num, by rw [WK2.out]; exact OV6.out, B6'.out⟩
          case measure => simp [intOf]; omega
    · obtain rfl : k = n := by omega
      have i1 : ¬ (k : Int) < (k : Int) := by omega
      go_wp2_with fail
      go_ret
      exact ⟨_, rfl, by rw [← LE.out]; exact OW.out, HB.out⟩
end
end Go.Proofs.YteobmfpbgnmffaaGreatDoor

/- TrDel -/
set_option linter.unusedSimpArgs false
set_option linter.unusedVariables false
/- Walks: rows of numbers: slices.Clone, IndexFunc (the place), DeleteFunc. -/




namespace Go.Proofs.YteobmfpbgnmffaaGreatDoor
open Go.RowKit Go.Shelf
set_option linter.unusedVariables false

/-- a row of numbers in a block of its own -/
def IRow (b n : Nat) (f : Nat → Int) (W : World) : Prop := ∀ i, i < n → W.cell? ⟨b, i, none⟩ = some (.int .i64 (f i)) ∧ W.frozen? ⟨b, i, none⟩ = false
theorem IRow.then {b n : Nat} {f : Nat → Int} {W W' : World} (h : IRow b n f W) (hb : Below W.heap.size W W') : IRow b n f W' := fun i hi => by
  obtain ⟨h1, h2⟩ := h i hi
  have hl := World.block_lt_of_cell? W _ h1
  exact ⟨(hb.cell hl).trans h1, (hb.frozen hl).trans h2⟩
theorem IRow.set {b n : Nat} {f : Nat → Int} {W : World} (h : IRow b n f W) {k : Nat} (hk : k < n) (x : Int) : IRow b n (fun i => if i = k then x else f i) (W.setCell ⟨b, k, none⟩ (.int .i64 x)) := fun i hi => by
  refine ⟨?_, (World.frozen?_setCell _ _ _ _).trans (h i hi).2⟩
  show _ = some (Value.int .i64 (if i = k then x else f i))
  by_cases e : i = k
  · subst e; rw [if_pos rfl]; exact sc_same (h i hi).1
  · rw [if_neg e]
    exact (sc_other (fun h2 => e (by simp only [Addr.mk.injEq] at h2; exact h2.2.1.symm))).trans (h i hi).1
theorem IRow.of_own {b c base : Nat} {D : List Int} {W : World} (h : Own encI 1 base 3 (.slice (some ⟨b, 0, none⟩) D.length c) D W) : IRow b D.length (fun i => D.getD i 0) W := fun i hi => by
  refine ⟨?_, World.ownsRow.frozenAt h i⟩
  have q := World.ownsRow.cellAt h i (by omega)
  rw [q]
  have : ∀ (l : List Int) (k : Nat), (l.flatMap encI)[k]? = (l[k]?).map fun z => Value.int .i64 z := by
    intro l
    induction l with
    | nil => intro k; rfl
    | cons a l ih => intro k; cases k with
      | zero => rfl
      | succ k => exact ih k
  show _ = some (Value.int .i64 (D.getD i 0))
  rw [this, List.getD_eq_getElem?_getD, List.getElem?_eq_getElem hi]
  rfl
set_option maxRecDepth 100000 in
set_option maxHeartbeats 16000000 in
theorem tclone_any (A : Option Addr) (cap : Nat) (l : List Int) (w : World) (h : Rd encI 1 w.heap.size A cap l w) (hl : l.length ≤ 5000) : Calls Tryz.prog 111 #[.slice A l.length cap] w fun e w' => ∃ v, e = .returned v ∧ Own encI 1 w.heap.size 3 v l w' ∧ Below w.heap.size w w' := by
  have q : ∀ (w : World) (a : Option Addr) (n c n' c' : Nat), (binOp .eql 42 (.slice a n c) (.slice none n' c')).run Tryz.prog w = .ok (.bool a.isNone) w := fun w a n c n' c' => Lib.run_eql_slice_nil w _ _ a n c n' c' (by rfl)
  have H := Lib.hid h
  have HL := Lib.hid hl
  cases A with
  | none =>
    have hlen : l.length = 0 := by
      cases l with
      | nil => rfl
      | cons x r => obtain ⟨b, o, e, _⟩ := h.2.2 0 (by simp); cases e
    obtain rfl := List.eq_nil_of_length_eq_zero hlen
    clear h hl hlen
    go_enter Tryz.func111, Tryz.ntmps111
    go_wp2_with fail
    go_ret
    exact ⟨_, rfl, Own.nil_ _ _ _, Below.refl _ _⟩
  | some ad =>
    obtain ⟨n, hn⟩ : ∃ n, n = l.length := ⟨_, rfl⟩
    have HN := Lib.hid hn
    rw [← hn]
    clear h hl hn
    go_enter Tryz.func111, Tryz.ntmps111
    go_wp2_with (at_builtin; refine wpList_append_rd _ rfl _ _ 42 rfl w.heap.size 3 _ _ 1 _ (by rfl) (by rfl) (by rfl) (by rfl) (by rfl) (by rfl) (by decide) encI_len encI_one _ 0 [] rfl (World.ownsRow_made w #[] 0 (Nat.le_refl _) (Nat.zero_le _) rfl) w.heap.size (some ad) cap l n HN.out rfl (H.out.alloc (Nat.le_refl _) _) (by have := HL.out; omega) (by decide) (by simp) ?_; intro v1 w1 ho1 hg1 hw1)
    go_ret
    have hO : Own encI 1 w.heap.size 3 v1 l w1 := by simpa [Own] using ho1
    exact ⟨v1, rfl, hO, ((Below.refl _ w).alloc (Nat.le_refl _) _).grown hg1 (by simp) (by intro k hk; cases hk; exact Nat.le_refl _)⟩
set_option maxRecDepth 100000 in
set_option maxHeartbeats 16000000 in
theorem idxat_any (g : FuncId) (eg : ∀ args w, (callFunc g args).run Tryz.prog w = .ok (.enter g args) w) (cp : Array Value) (p : Int → Bool) (l : List Int) (A : Option Addr) (c : Nat) (w : World) (hl : Rd encI 1 w.heap.size A c l w) (hn : l.length ≤ 1000000) (hp : PredI w g cp p l) :
    Calls Tryz.prog 156 #[.slice A l.length c, .func (.func g) #[] cp] w fun e w' => ((e = .returned (.int .i64 (-1)) ∧ ∀ j (hj : j < l.length), p l[j] = false) ∨ ∃ k : Nat, ∃ hk : k < l.length, e = .returned (.int .i64 (k : Int)) ∧ p l[k] = true ∧ ∀ j (hj : j < l.length), j < k → p l[j] = false) ∧ Below w.heap.size w w' := by
  have HL := Lib.hid hl
  have HP := Lib.hid hp
  clear hp
  obtain ⟨n, hnn⟩ : ∃ n, n = l.length := ⟨_, rfl⟩
  rw [← hnn] at hn
  have HN := Lib.hid hnn
  rw [show (Value.slice A l.length c) = .slice A n c by rw [hnn]]
  clear hl hnn
  go_enter Tryz.func156, Tryz.ntmps156
  go_wp2_with fail
  go_loopw [8] (fun i wr => ∃ k : Nat, k ≤ n ∧ i = .int .i64 (k : Int) ∧ Hid (∀ j (hj : j < l.length), j < k → p l[j] = false) ∧ Below w.heap.size w wr) (fun i _ => n - (intOf i).toNat)
  case atStart => exact ⟨0, by omega, rfl, Lib.hid (by intro j hj h; omega), Below.refl _ _⟩
  case round =>
    obtain ⟨k, hk, rfl, hS, hB⟩ := hrel
    rename World => wr
    by_cases hlt : k < n
    · have hkl : k < l.length := by have := HN.out; omega
      obtain ⟨b, o, rfl, hb, c0⟩ := (HL.out.below hB).at1 (f := fun s => Value.int .i64 s) (fun _ => rfl) hkl
      have CP := Lib.hid (HP.out _ (List.getElem_mem hkl) wr hB)
      have HT := Lib.hid (fun (h : p l[k] = true) => show ∃ k' : Nat, ∃ hk : k' < l.length, k' = k ∧ p l[k'] = true ∧ ∀ j (hj : j < l.length), j < k' → p l[j] = false from ⟨k, hkl, rfl, h, hS.out⟩)
      have HF := Lib.hid (fun (h : p l[k] = false) => show ∀ j (hj : j < l.length), j < k + 1 → p l[j] = false from fun j hj hjk => by
        by_cases e : j = k
        · subst e; exact h
        · exact hS.out j hj (by omega))
      have i0 : (0 : Int) ≤ (k : Int) := by omega
      have i1 : (k : Int) < (n : Int) := by omega
      generalize l[k] = d at *
      generalize p d = r at *
      clear hS
      go_wp2_with fail
      go_at_fn g
      refine CP.out.mono ?_
      rintro e w2 ⟨rfl, h⟩
      have hB2 := hB.trans (h.mono hB.size)
      cases r
      · have HF2 := Lib.hid (HF.out (by trivial))
        go_wp2_with fail
        go_roundw
        case rel => exact ⟨k + 1, by omega, by go_num, HF2, hB2⟩
        case measure => simp [intOf]; omega
      · have HA := Lib.hid (HT.out (by trivial))
        clear HT HF
        go_wp2_with fail
        go_ret
        obtain ⟨k', hk', rfl, h1, h2⟩ := HA.out
        exact ⟨.inr ⟨_, hk', rfl, h1, h2⟩, hB2⟩
    · have i1 : ¬ (k : Int) < (n : Int) := by omega
      have HA := Lib.hid (show ∀ j (hj : j < l.length), p l[j] = false from fun j hj => hS.out j hj (by have := HN.out; omega))
      go_wp2_with fail
      go_ret
      exact ⟨.inl ⟨rfl, HA.out⟩, hB⟩
theorem IRow.rd {b n c : Nat} {f : Nat → Int} {W : World} (h : IRow b n f W) (hb : b < W.heap.size) {E : List Int} (hE : E.length ≤ n) (hc : n ≤ c) (hm : c ≤ maxLen) (he : ∀ i (hi : i < E.length), f i = E[i]) : Rd encI 1 W.heap.size (some ⟨b, 0, none⟩) c E W :=
  ⟨by omega, hm, fun k hk => ⟨b, 0, rfl, hb, fun j u hu => by
    have hj : j = 0 := by have := (List.getElem?_eq_some_iff.1 hu).1; rw [encI_len] at this; omega
    subst hj
    have h1 := (h k (by omega)).1
    rw [he k hk] at h1
    rw [show 0 + k * 1 + 0 = k by omega, h1]
    exact hu⟩⟩
theorem getD_at {D : List Int} {i : Nat} (hi : i < D.length) : D.getD i 0 = D[i] := by rw [List.getD_eq_getElem?_getD, List.getElem?_eq_getElem hi]; rfl
theorem idxat2_any (g : FuncId) (eg : ∀ args w, (callFunc g args).run Tryz.prog w = .ok (.enter g args) w) (cp : Array Value) (p : Int → Bool) (l : List Int) (n : Nat) (hl9 : l.length = n) (A : Option Addr) (c : Nat) (w : World) (hl : Rd encI 1 w.heap.size A c l w) (hn : n ≤ 1000000) (hp : PredI w g cp p l) :
    Calls Tryz.prog 156 #[.slice A n c, .func (.func g) #[] cp] w fun e w' => ((e = .returned (.int .i64 (-1)) ∧ ∀ s ∈ l, p s = false) ∨ ∃ k : Nat, k < n ∧ e = .returned (.int .i64 (k : Int)) ∧ p (l.getD k 0) = true ∧ ∀ j, j < k → p (l.getD j 0) = false) ∧ Below w.heap.size w w' := by
  subst hl9
  refine (idxat_any g eg cp p l A c w hl hn hp).mono ?_
  rintro e w' ⟨h, hb⟩
  refine ⟨?_, hb⟩
  rcases h with ⟨h1, h2⟩ | ⟨k, hk, h1, h2, h3⟩
  · exact .inl ⟨h1, fun s hs => by obtain ⟨j, hj, rfl⟩ := List.getElem_of_mem hs; exact h2 j hj⟩
  · exact .inr ⟨k, hk, h1, by rw [getD_at hk]; exact h2, fun j hj => by rw [getD_at (by omega : j < l.length)]; exact h3 j _ hj⟩
theorem size_setC (b : Nat) : ∀ (vs : List Value) (o : Nat) (W : World), (W.setCells b o vs).heap.size = W.heap.size
  | [], _, _ => rfl
  | v :: vs, o, W => (size_setC b vs (o + 1) (W.setCell ⟨b, o, none⟩ v)).trans (by simp [World.setCell])
theorem below_setC {B b : Nat} (hb : B ≤ b) : ∀ (vs : List Value) (o : Nat) {a W : World}, Below B a W → Below B a (W.setCells b o vs)
  | [], _, _, _, h => h
  | v :: vs, o, _, _, h => below_setC hb vs (o + 1) (h.setCell (p := ⟨b, o, none⟩) hb v)
set_option maxRecDepth 100000 in
set_option maxHeartbeats 16000000 in
theorem delint_any (g : FuncId) (eg : ∀ args w, (callFunc g args).run Tryz.prog w = .ok (.enter g args) w) (cp : Array Value) (p : Int → Bool) (D : List Int) (b c base : Nat) (w0 w : World) (hbase : base ≤ b) (hbw : b < w.heap.size) (h0 : Below base w0 w) (hr : IRow b D.length (fun i => D.getD i 0) w) (hn : D.length ≤ 1000000) (hc : D.length ≤ c) (hcm : c ≤ maxLen) (h0b : base ≤ w.heap.size) (hp : ∀ s W, Below base w0 W → Calls Tryz.prog g (#[.int .i64 s] ++ cp) W fun e w' => e = .returned (.bool (p s)) ∧ Below W.heap.size W w') :
    Calls Tryz.prog 110 #[.slice (some ⟨b, 0, none⟩) D.length c, .func (.func g) #[] cp] w fun e w' => e = .returned (.slice (some ⟨b, 0, none⟩) (D.filter fun s => !p s).length c) ∧ Rd encI 1 w'.heap.size (some ⟨b, 0, none⟩) c (D.filter fun s => !p s) w' ∧ Below base w0 w' := by
  obtain ⟨n, hnn⟩ : ∃ n, D.length = n := ⟨_, rfl⟩
  have IX := Lib.hid (idxat2_any g eg cp p D n hnn (some ⟨b, 0, none⟩) c w (hr.rd hbw (Nat.le_refl _) hc hcm (fun i hi => getD_at hi)) (by omega) (fun s _ W hb => hp s W (h0.trans (hb.mono (by omega)))))
  have HP := Lib.hid hp
  have HR := Lib.hid hr
  have H0 := Lib.hid h0
  rw [hnn] at HR hn hc ⊢
  have HN := Lib.hid hnn
  have TK := Lib.hid (fun j (hj : j < n) => show (D.take (j + 1)).filter (fun s => !p s) = (D.take j).filter (fun s => !p s) ++ (if p (D.getD j 0) then [] else [D.getD j 0]) from by
    have hj2 : j < D.length := by omega
    rw [List.take_succ_eq_append_getElem hj2, List.filter_append, getD_at hj2, List.filter_cons]
    cases p D[j] <;> rfl)
  have TE := Lib.hid (show (D.take n).filter (fun s => !p s) = D.filter (fun s => !p s) from by rw [← hnn, List.take_length])
  clear hp hr h0 hnn
  go_enter Tryz.func110, Tryz.ntmps110
  go_wp2_with fail
  go_at_call 156
  refine IX.out.mono ?_
  rintro en w1 ⟨hcase, h⟩
  have B1 := Lib.hid (H0.out.trans (h.mono (by omega)))
  have R1 := Lib.hid (HR.out.then h)
  have HBW := Lib.hid (Nat.lt_of_lt_of_le hbw h.size)
  clear h IX H0 HR
  rcases hcase with ⟨rfl, hall⟩ | ⟨k, hk, rfl, hpk, hall⟩
  · have HF := Lib.hid (show D.filter (fun s => !p s) = D from List.filter_eq_self.2 fun s hs => by rw [hall s hs]; rfl)
    clear hall
    go_wp2_with fail
    go_ret
    exact ⟨by rw [HF.out, HN.out]; rfl, by rw [HF.out]; exact R1.out.rd HBW.out (Nat.le_of_eq HN.out) hc hcm (fun i hi => getD_at hi), B1.out⟩
  · have hk2 : ((k : Int) == -1) = false := beq_eq_false_iff_ne.2 (by omega)
    have F0 := Lib.hid (show (List.range k).map (fun i => D.getD i 0) = (D.take (k + 1)).filter (fun s => !p s) from by
      have hal : ∀ j, j ≤ k → (D.take j).filter (fun s => !p s) = (List.range j).map (fun i => D.getD i 0) := by
        intro j
        induction j with
        | zero => intro _; rfl
        | succ j ih =>
          intro hj
          rw [TK.out j (by omega), ih (by omega), hall j (by omega), List.range_succ, List.map_append]
          rfl
      rw [TK.out k hk, hal k (Nat.le_refl _), hpk]
      simp)
    clear hall hpk
    go_wp2_with fail
    go_loopw [5, 6, 7] (fun iv jv vv wr => ∃ (i j : Nat) (f : Nat → Int), i < j ∧ j ≤ n ∧ iv = .int .i64 (i : Int) ∧ jv = .int .i64 (j : Int) ∧ IRow b n f wr ∧ Hid (∀ x, j ≤ x → x < n → f x = D.getD x 0) ∧ Hid ((List.range i).map f = (D.take j).filter fun s => !p s) ∧ b < wr.heap.size ∧ Below base w0 wr) (fun _ jv _ _ => n - (intOf jv).toNat)
    case atStart => exact ⟨k, k + 1, fun i => D.getD i 0, by omega, by omega, rfl, by go_num, R1.out, Lib.hid (fun _ _ _ => rfl), F0.out, HBW.out, B1.out⟩
    case round =>
      obtain ⟨i, j, f, hij, hjn, rfl, rfl, hR, HS, HT, hbl, hB⟩ := hrel
      rename World => wr
      have RR := Lib.hid hR
      have HB := Lib.hid hB
      by_cases hlt : j < n
      · have i0 : (0 : Int) ≤ (j : Int) := by omega
        have i1 : (j : Int) < (n : Int) := by omega
        have c0 := (hR j hlt).1
        have FJ := HS.out j (Nat.le_refl _) hlt
        rw [FJ] at c0
        have CP := Lib.hid (HP.out (D.getD j 0) wr hB)
        have TJ := Lib.hid (TK.out j hlt)
        generalize D.getD j 0 = d at *
        generalize p d = r at *
        clear hR hB
        go_wp2_with fail
        go_at_fn g
        refine CP.out.mono ?_
        rintro e w2 ⟨rfl, h⟩
        have HB2 := Lib.hid (HB.out.trans (h.mono (by have := HB.out.size; omega)))
        have RR2 := Lib.hid (RR.out.then h)
        have hbl2 := Nat.lt_of_lt_of_le hbl h.size
        clear h c0 RR HB
        cases r
        · have NT := Lib.hid (show (List.range (i + 1)).map (fun x => if x = i then d else f x) = (D.take (j + 1)).filter (fun s => !p s) from by
            rw [TJ.out, ← HT.out, List.range_succ, List.map_append, if_neg (by simp)]
            congr 1
            · exact List.map_congr_left fun x hx => if_neg (by have := List.mem_range.1 hx; omega)
            · simp)
          obtain ⟨ci, fi⟩ := RR2.out i (by omega)
          have j0 : (0 : Int) ≤ (i : Int) := by omega
          have j1 : (i : Int) < (n : Int) := by omega
          have NR := Lib.hid (RR2.out.set (k := i) (by omega) d)
          have NB := Lib.hid (HB2.out.setCell (p := ⟨b, i, none⟩) hbase (.int .i64 d))
          clear TJ CP FJ
          go_wp2_with fail
          go_roundw
          case rel => exact ⟨i + 1, j + 1, _, by omega, by omega, by go_num, by go_num, NR.out, Lib.hid (fun x h1 h2 => by show (if x = i then d else f x) = _; rw [if_neg (by omega)]; exact HS.out x (by omega) h2), NT, by simpa [World.setCell] using hbl2, NB.out⟩
          case measure => simp [intOf]; omega
        · have NT := Lib.hid (show (List.range i).map f = (D.take (j + 1)).filter (fun s => !p s) from by rw [TJ.out, if_pos (by simp), List.append_nil]; exact HT.out)
          clear TJ CP FJ
          go_wp2_with fail
          go_roundw
          case rel => exact ⟨i, j + 1, f, by omega, by omega, rfl, by go_num, RR2.out, Lib.hid (fun x h1 h2 => HS.out x (by omega) h2), NT, hbl2, HB2.out⟩
          case measure => simp [intOf]; omega
      · obtain rfl : j = n := by omega
        have i1 : ¬ (j : Int) < (j : Int) := by omega
        have j0 : (0 : Int) ≤ (i : Int) := by omega
        have j1 : (i : Int) ≤ (j : Int) := by omega
        have j2 : (i : Int) ≤ (c : Int) := by omega
        have CL := fun ty => Lib.run_clear_slice (P := Tryz.prog) wr 42 3 ty (.int .i64 0) Tryz.underlying42 Tryz.zeroValue3 rfl rfl b i (j - i) (c - i) (by omega) (fun x hx => by rw [(hR (i + x) (by omega)).1]; rfl) (fun x hx => (hR (i + x) (by omega)).2)
        clear hR hB
        have R9 := Lib.hid (show Rd encI 1 (wr.setCells b i (List.replicate (j - i) (.int .i64 0))).heap.size (some ⟨b, 0, none⟩) c (D.filter fun s => !p s) (wr.setCells b i (List.replicate (j - i) (.int .i64 0))) from by
          have hE : D.filter (fun s => !p s) = (List.range i).map f := by rw [HT.out, TE.out]
          rw [hE]
          refine IRow.rd (n := i) (f := f) (fun x hx => ?_) ?_ (by simp) (by omega) hcm (fun x hx => by simp)
          · exact ⟨(World.cell?_setCells_out b _ _ _ _ (fun _ _ => .inl hx)).trans (RR.out x (by omega)).1, (World.frozen?_setCells b _ _ _ _).trans (RR.out x (by omega)).2⟩
          · rw [size_setC]; exact hbl)
        have L9 := Lib.hid (show (D.filter fun s => !p s).length = i from by rw [← TE.out, ← HT.out]; simp)
        have B9 := Lib.hid (below_setC hbase (List.replicate (j - i) (.int .i64 0)) i HB.out)
        clear HT TE RR HB
        go_wp2_with fail
        go_ret
        exact ⟨by rw [L9.out]; rfl, R9.out, B9.out⟩
end Go.Proofs.YteobmfpbgnmffaaGreatDoor

/- RegPh, TrWo -/
set_option linter.unusedSimpArgs false
set_option linter.unusedVariables false
open List (getElem?_toArray getElem?_cons_zero getElem?_cons_succ setIfInBounds_toArray set_cons_zero set_cons_succ take_succ_cons take_zero)
namespace Go.Proofs.YteobmfpbgnmffaaGreatDoor
section
/- As RegInv4's, in two phases: what is known of a value may turn when the s-th operation is done (it turns a row that it was handed). -/


open Go.RowKit Go.Shelf

section
variable {P : Program} {ops : Array Oper} {Q : Exit → Act → World → Prop} {md : Region.Mode}
/-- **As 'wp_region_tail'; and one operation, the s-th, turns what is there in a way of its own (an append onto a row of the call's).** -/
theorem wp_region_phase {PP : Bool → Nat → Value → World → Prop} {RelS : World → World → Prop} {id : Nat} {a : Act} {w : World} (n s : Nat) (hm : P.follows .mixedOrders = true) (hb : backEdges .any ops = true) (ht : tailEdges n ops = true) (hn : ((ops.toList.take n).map (·.dst)).Nodup) (hsz : n ≤ ops.size) (hsn : s < n)
    (hmono : ∀ ph i v w' w'', (Below w.heap.size w w' ∨ RelS w w') → PP ph i v w' → Below w'.heap.size w' w'' → PP ph i v w'') (hmonoS : ∀ i v w' w'', i ≠ s → Below w.heap.size w w' → PP false i v w' → RelS w' w'' → PP true i v w'')
    (hS2 : ∀ b c, RelS w b → Below b.heap.size b c → RelS w c) (hS3 : ∀ b c, Below w.heap.size w b → RelS b c → RelS w c) (vs0 : Nat → Value) (h0 : fillV (ops.toList.take n) 0 vs0 a = a)
    (hstep : ∀ (ph : Bool) (i : Nat) (o : Oper) (vs : Nat → Value) (w' : World), i < n → i ≠ s → ops[i]? = some o → (∀ e ∈ o.after, Region.binds .any e = true → PP ph e.on (vs e.on) w') → (Below w.heap.size w w' ∨ RelS w w') → (((ops[s]?).map fun o' => o'.after.any fun e => Region.binds .any e && e.on == i).getD false = true → Below w.heap.size w w') →
      ∀ K : Act → World → Prop, (∀ v w'', PP ph i v w'' → Below w'.heap.size w' w'' → K ((fillV (ops.toList.take n) 0 vs a).put o.dst v) w'') → if Region.wanted o (yielded ops (fillV (ops.toList.take n) 0 vs a).tmps) = true then Oper.wp P o (fillV (ops.toList.take n) 0 vs a) w' K Q else K ((fillV (ops.toList.take n) 0 vs a).put o.dst undef) w')
    (hstepS : ∀ (o : Oper) (vs : Nat → Value) (w' : World), ops[s]? = some o → (∀ e ∈ o.after, Region.binds .any e = true → PP false e.on (vs e.on) w') → Below w.heap.size w w' →
      ∀ K : Act → World → Prop, (∀ v w'', PP true s v w'' → RelS w' w'' → K ((fillV (ops.toList.take n) 0 vs a).put o.dst v) w'') → if Region.wanted o (yielded ops (fillV (ops.toList.take n) 0 vs a).tmps) = true then Oper.wp P o (fillV (ops.toList.take n) 0 vs a) w' K Q else K ((fillV (ops.toList.take n) 0 vs a).put o.dst undef) w')
    (hrest : ∀ vs w', (∀ i, i < n → PP true i (vs i) w') → RelS w w' → wpList P ops Q (ops.toList.drop n) (fillV (ops.toList.take n) 0 vs a) w') : (Code.region id ops true).wp P Q a w := by
  let Clo : Array Bool → Prop := fun listed => ∀ j o, ops[j]? = some o → listed.getD j false = true → ∀ e ∈ o.after, Region.binds .any e = true → listed.getD e.on false = true
  refine wp_region_any hm (wpAny_inv3 (J := fun listed a' w' => Clo listed ∧ ((∃ vs, a' = fillV (ops.toList.take n) 0 vs a ∧ ((listed.getD s false = false ∧ Below w.heap.size w w') ∨ (listed.getD s false = true ∧ RelS w w')) ∧ (∀ i, i < n → listed.getD i false = true → PP (listed.getD s false) i (vs i) w') ∧ ∀ i, n ≤ i → listed.getD i false = false) ∨ (∃ m, n < m ∧ (∀ i, i < ops.size → listed.getD i false = decide (i < m)) ∧ m ≤ ops.size ∧ wpList P ops Q (ops.toList.drop m) a' w'))) hb ?_ ?_ _ _ _ _ (by simp) (by unfold unlisted; exact Nat.le_trans (List.length_filter_le _ _) (by simp)) ?_)
  · rintro i o listed a' w' hi ho hs hun he ⟨hc, hJ⟩ K hK
    have hunl : listed.getD i false = false := by
      have h3 : i < listed.size := by omega
      simp only [Array.getD, h3, dite_true] at hun ⊢
      exact hun
    have hclo : Clo (listed.setIfInBounds i true) := by
      intro j o' ho' hj e hem hbd
      rw [getD_set] at hj ⊢
      by_cases hji : i = j
      · subst hji
        rw [ho] at ho'
        cases ho'
        rw [he e hem hbd]; rfl
      · have hj2 : listed.getD j false = true := by simpa [hji] using hj
        rw [hc j o' ho' hj2 e hem hbd]; rfl
    have nxt : ∀ m, m = i → n ≤ m → (∀ j, j < ops.size → listed.getD j false = decide (j < m)) → wpList P ops Q (ops.toList.drop m) a' w' → if Region.wanted o (yielded ops a'.tmps) = true then Oper.wp P o a' w' K Q ∨ (o.asks P a' w' ∧ LetsOut Q) else K (a'.put o.dst undef) w' := by
      rintro m rfl hnm hl hw
      have hd : ops.toList.drop m = o :: ops.toList.drop (m + 1) := by
        have h1 : m < ops.toList.length := by simpa using hi
        rw [List.drop_eq_getElem_cons h1]
        congr 1
        have : ops[m] = o := by rw [Array.getElem?_eq_getElem hi] at ho; exact Option.some.inj ho
        simpa using this
      rw [hd] at hw
      have go : ∀ a2 w2, wpList P ops Q (ops.toList.drop (m + 1)) a2 w2 → K a2 w2 := fun a2 w2 h2 => hK a2 w2 ⟨hclo, .inr ⟨m + 1, by omega, fun j hj => by
        rw [getD_set, hl j hj]
        by_cases h1 : j < m
        · simp [h1]; omega
        · by_cases h2 : j = m
          · subst h2; simp; omega
          · have h3 : ¬ m = j := fun e => h2 e.symm
            simp [h1, h3]; omega, by omega, h2⟩⟩
      unfold wpList at hw
      split
      · rename_i hwt
        rw [if_pos hwt] at hw
        rcases hw with h1 | h1
        · exact .inl (Oper.wp_mono go h1)
        · exact .inr h1
      · rename_i hwt
        rw [if_neg hwt] at hw
        exact go _ _ hw
    by_cases hin : i < n
    · rcases hJ with ⟨vs, rfl, hB, hP, hF⟩ | ⟨m, hm1, hl, _⟩
      · have fill : ∀ v, (fillV (ops.toList.take n) 0 vs a).put o.dst v = fillV (ops.toList.take n) 0 (upd vs i v) a := fun v => by
          have := fillV_put (ops.toList.take n) 0 vs a i o v (by rw [List.getElem?_take]; simp [hin]; simpa using ho) hn
          rw [this]; simp
        have low : ∀ j, n ≤ j → (listed.setIfInBounds i true).getD j false = false := fun j hj => by
          rw [getD_set, hF j hj]
          have : ¬ i = j := by omega
          simp [this]
        have was : ∀ j, j ≠ i → (listed.setIfInBounds i true).getD j false = listed.getD j false := fun j hj => by
          rw [getD_set]
          have : ¬ i = j := fun e => hj e.symm
          simp [this]
        have now : (listed.setIfInBounds i true).getD i false = true := by
          rw [getD_set]
          have : i < listed.size := by omega
          simp [this]
        have hed : ∀ e ∈ o.after, Region.binds .any e = true → PP (listed.getD s false) e.on (vs e.on) w' := fun e hem hbd => hP _ (by have := back_lt hb hi ho hem hbd; omega) (he e hem hbd)
        by_cases his : i = s
        · subst his
          have hB' : Below w.heap.size w w' := by
            rcases hB with ⟨_, h1⟩ | ⟨h1, _⟩
            · exact h1
            · rw [hunl] at h1; cases h1
          rw [hunl] at hed hP
          have hst := hstepS o vs w' ho hed hB' K (fun v w'' hv hb' => hK _ _ ⟨hclo, .inl ⟨upd vs i v, fill v, .inr ⟨now, hS3 _ _ hB' hb'⟩, fun j hj hjl => by
            by_cases hji : j = i
            · subst hji; rw [now]; simp [upd]; exact hv
            · rw [now]; simp only [upd, hji, if_false]
              exact hmonoS _ _ _ _ hji hB' (hP j hj (by rw [was j hji] at hjl; exact hjl)) hb', low⟩⟩)
          split
          · rename_i hwt; rw [if_pos hwt] at hst; exact .inl hst
          · rename_i hwt; rw [if_neg hwt] at hst; exact hst
        · have hst := hstep _ i o vs w' hin his ho hed (hB.elim (fun h => .inl h.2) (fun h => .inr h.2)) (fun hd => by
            rcases hB with ⟨_, h2⟩ | ⟨h1, _⟩
            · exact h2
            · exfalso
              cases hso : ops[s]? with
              | none => rw [hso] at hd; simp at hd
              | some o2 =>
                rw [hso, Option.map_some, Option.getD_some] at hd
                obtain ⟨x, hx, h3⟩ := Array.any_eq_true.1 hd
                simp only [Bool.and_eq_true, beq_iff_eq] at h3
                have h4 := hc _ o2 hso h1 _ (Array.getElem_mem hx) h3.1
                rw [h3.2, hunl] at h4
                cases h4) K (fun v w'' hv hb' => hK _ _ ⟨hclo, .inl ⟨upd vs i v, fill v, by
            rw [was s (fun e => his e.symm)]
            rcases hB with ⟨h1, h2⟩ | ⟨h1, h2⟩
            · exact .inl ⟨h1, h2.trans (hb'.mono h2.size)⟩
            · exact .inr ⟨h1, hS2 _ _ h2 hb'⟩, fun j hj hjl => by
            by_cases hji : j = i
            · subst hji; rw [was s (fun e => his e.symm)]; rw [show upd vs j v j = v by simp [upd]]; exact hv
            · rw [was s (fun e => his e.symm)]; simp only [upd, hji, if_false]
              exact hmono _ _ _ _ _ (hB.elim (fun h => .inl h.2) (fun h => .inr h.2)) (hP j hj (by rw [was j hji] at hjl; exact hjl)) hb', low⟩⟩)
          split
          · rename_i hwt; rw [if_pos hwt] at hst; exact .inl hst
          · rename_i hwt; rw [if_neg hwt] at hst; exact hst
      · rw [hl i hi] at hunl
        have := of_decide_eq_false hunl
        omega
    · have hall : ∀ j, j < i → listed.getD j false = true := by
        intro j hj
        unfold tailEdges at ht
        have h1 := List.all_eq_true.1 ht i (List.mem_range.2 hi)
        rw [decide_eq_false hin, Bool.false_or] at h1
        have h2 := List.all_eq_true.1 h1 j (List.mem_range.2 hj)
        exact waits_listed hc _ i j o ho he h2
      rcases hJ with ⟨vs, rfl, hB, hP, hF⟩ | ⟨m, hm1, hl, hm2, hw⟩
      · have hin2 : n = i := by
          refine Classical.byContradiction fun hne => ?_
          have := hall n (by omega)
          rw [hF n (Nat.le_refl _)] at this
          cases this
        refine nxt n hin2 (Nat.le_refl _) (fun j hj => ?_) (hrest vs w' (fun j hj => by have q := hP j hj (hall j (by omega)); rw [hall s (by omega)] at q; exact q) (by
          rcases hB with ⟨h1, _⟩ | ⟨_, h2⟩
          · rw [hall s (by omega)] at h1; cases h1
          · exact h2))
        by_cases h1 : j < n
        · rw [decide_eq_true h1]; exact hall j (by omega)
        · rw [decide_eq_false h1]; exact hF j (by omega)
      · have him : m = i := by
          rw [hl i hi] at hunl
          have h1 := of_decide_eq_false hunl
          refine Classical.byContradiction fun hne => ?_
          have h2 := hall m (by omega)
          rw [hl m (by omega)] at h2
          have := of_decide_eq_true h2
          omega
        exact nxt m him (by omega) hl hw
  · rintro a' w' ⟨_, hJ⟩
    have hrep : ∀ i, i < ops.size → (Array.replicate ops.size true).getD i false = true := fun i hi => by simp [Array.getD, hi]
    rcases hJ with ⟨vs, rfl, hB, hP, hF⟩ | ⟨m, hm1, hl, hm2, hw⟩
    · have hge : n = ops.size := by
        refine Classical.byContradiction fun hne => ?_
        have h1 := hF n (Nat.le_refl _)
        rw [hrep n (by omega)] at h1
        cases h1
      have := hrest vs w' (fun j hj => by have q := hP j hj (hrep j (by omega)); rw [hrep s (by omega)] at q; exact q) (by
        rcases hB with ⟨h1, _⟩ | ⟨_, h2⟩
        · rw [hrep s (by omega)] at h1; cases h1
        · exact h2)
      rw [List.drop_eq_nil_of_le (by simp [hge])] at this
      exact this
    · have hge : m = ops.size := by
        refine Classical.byContradiction fun hne => ?_
        have h1 := hl m (by omega)
        rw [hrep m (by omega)] at h1
        have := of_decide_eq_true h1.symm
        omega
      rw [List.drop_eq_nil_of_le (by simp [hge])] at hw
      exact hw
  · refine ⟨fun j o ho hj => ?_, .inl ⟨vs0, h0.symm, .inl ⟨by
      by_cases h : s < ops.size
      · simp [Array.getD, h]
      · simp [Array.getD, h], (Below.refl _ _).drew⟩, fun i hi hj => ?_, fun i hi => ?_⟩⟩
    · exfalso
      by_cases h : j < ops.size
      · simp [Array.getD, h] at hj
      · simp [Array.getD, h] at hj
    · exfalso
      by_cases h : i < ops.size
      · simp [Array.getD, h] at hj
      · simp [Array.getD, h] at hj
    · by_cases h : i < ops.size
      · simp [Array.getD, h]
      · simp [Array.getD, h]
end
end
section
/- Walks: whether a state without a package satisfies (truth: Without). -/




open Go.RowKit Go.Shelf
set_option linter.unusedVariables false

theorem own_monoT {base base' : Nat} {e : TypeId} {v : Value} {S : List Int} {W : World} (h : Own encI 1 base e v S W) (hb : base' ≤ base) : Own encI 1 base' e v S W :=
  ⟨h.1, h.2.imp id fun ⟨b, cap, cs, e1, e2, r⟩ => ⟨b, cap, cs, e1, Nat.le_trans hb e2, r⟩⟩
theorem less_eq (S : List Int) (x : Int) : (S.filter fun s => !(s == x)) = lessV S x := by
  unfold lessV
  congr 1
  funext z
  by_cases h : z = x
  · simp [h]
  · simp [h]
set_option maxRecDepth 100000 in
theorem wout1_any (z x : Int) (b : Nat) (W : World) (hc : W.cell? ⟨b, 0, none⟩ = some (.int .i64 x)) : Calls Tryz.prog 112 (#[.int .i64 z] ++ #[.pointer (some ⟨b, 0, none⟩)]) W fun e w' => e = .returned (.bool (z == x)) ∧ Below W.heap.size W w' := by
  show Calls Tryz.prog 112 #[.int .i64 z, .pointer (some ⟨b, 0, none⟩)] W _
  go_enter Tryz.func112, Tryz.ntmps112
  go_wp2_with fail
  go_ret
  exact ⟨rfl, Below.refl _ _⟩
set_option maxRecDepth 100000 in
set_option maxHeartbeats 16000000 in
theorem del0_any (g : FuncId) (eg : ∀ args w, (callFunc g args).run Tryz.prog w = .ok (.enter g args) w) (cp : Array Value) (A : Option Addr) (c : Nat) (W : World) (h : Rd encI 1 W.heap.size A c ([] : List Int) W) : Calls Tryz.prog 110 #[.slice A 0 c, .func (.func g) #[] cp] W fun e w' => e = .returned (.slice A 0 c) ∧ Below W.heap.size W w' := by
  have IX := Lib.hid (idxat2_any g eg cp (fun _ => false) [] 0 rfl A c W h (by decide) (fun s hs => by cases hs))
  clear h
  go_enter Tryz.func110, Tryz.ntmps110
  go_wp2_with fail
  go_at_call 156
  refine IX.out.mono ?_
  rintro en w1 ⟨hcase, h⟩
  have B1 := Lib.hid h
  clear h IX
  rcases hcase with ⟨rfl, _⟩ | ⟨k, hk, _⟩
  · go_wp2_with fail
    go_ret
    exact ⟨rfl, B1.out⟩
  · exact absurd hk (Nat.not_lt_zero _)
theorem delown_any (g : FuncId) (eg : ∀ args w, (callFunc g args).run Tryz.prog w = .ok (.enter g args) w) (cp : Array Value) (x? : Int → Bool) (S : List Int) (base : Nat) (w0 W : World) (v : Value) (ho : Own encI 1 base 3 v S W) (h0 : Below base w0 W) (hb : base ≤ W.heap.size) (hS : S.length ≤ 5000) (hp : ∀ s W', Below base w0 W' → Calls Tryz.prog g (#[.int .i64 s] ++ cp) W' fun e w' => e = .returned (.bool (x? s)) ∧ Below W'.heap.size W' w') :
    Calls Tryz.prog 110 #[v, .func (.func g) #[] cp] W fun e w' => ∃ A c, e = .returned (.slice A (S.filter fun s => !x? s).length c) ∧ Rd encI 1 w'.heap.size A c (S.filter fun s => !x? s) w' ∧ Below base W w' := by
  obtain ⟨A, c, rfl, hrd⟩ := ho.rd encI_len
  by_cases hS0 : S = []
  · subst hS0
    refine (del0_any g eg cp A c W hrd).mono ?_
    rintro e w' ⟨rfl, h⟩
    exact ⟨A, c, rfl, (hrd.below h).more h.size, h.mono hb⟩
  · obtain ⟨_, ⟨e1, e2⟩ | ⟨b, cap, cs, e1, e2, e3, _⟩⟩ := id ho
    · exact absurd (List.eq_nil_of_length_eq_zero e2) hS0
    · simp only [Value.slice.injEq] at e1
      obtain ⟨rfl, _, rfl⟩ := e1
      have hbw : b < W.heap.size := (Array.getElem?_eq_some_iff.1 e3).1
      refine (delint_any g eg cp x? S b c base W W e2 hbw (Below.refl _ _) (IRow.of_own ho) (by omega) hrd.1 hrd.2.1 hb (fun s W' h => hp s W' (h0.trans h))).mono ?_
      rintro e w' ⟨rfl, h1, h2⟩
      exact ⟨_, _, rfl, h1, h2⟩
def woP (T bx m c base : Nat) (A : Option Addr) (S : List Int) (x : Int) (R : RV) (r : Bool) (ph : Bool) (i : Nat) (v : Value) (W : World) : Prop := match i with
  | 0 => v = .pointer (some ⟨T, 0, none⟩)
  | 1 => v = .slice A m c
  | 2 => ph = false → Own encI 1 base 3 v S W
  | 3 => v = .func (.func 112) #[] #[.pointer (some ⟨bx, 0, none⟩)]
  | 4 => ∃ A' c', v = .slice A' (lessV S x).length c' ∧ Rd encI 1 W.heap.size A' c' (lessV S x) W
  | 5 => v = .agg #[.int .u8 R.kind, .string (bs R.dep.name), .int .u8 R.dep.op, .int .i64 R.dep.evr.epoch, .string (bs R.dep.evr.ver), .string (bs R.dep.evr.rel), .slice R.addr R.args.length R.cap]
  | 6 => v = .bool r
  | 7 => v = .bool r
  | _ => False
theorem woP_mono (T bx m c base : Nat) (A : Option Addr) (S : List Int) (x : Int) (R : RV) (r : Bool) (w : World) : ∀ ph i v w' w'', (Below w.heap.size w w' ∨ Below base w w') → woP T bx m c base A S x R r ph i v w' → Below w'.heap.size w' w'' → woP T bx m c base A S x R r ph i v w'' := by
  intro ph i v w' w'' _ h hb
  match i, h with
  | 0, h => exact h
  | 1, h => exact h
  | 2, h => exact fun e => Own.below (h e) hb (Nat.le_refl _)
  | 3, h => exact h
  | 4, h => exact h.elim fun A h => h.elim fun c h => ⟨A, c, h.1, (h.2.below hb).more hb.size⟩
  | 5, h => exact h
  | 6, h => exact h
  | 7, h => exact h
  | (k + 8), h => exact h.elim
theorem woP_monoS (T bx m c base : Nat) (A : Option Addr) (S : List Int) (x : Int) (R : RV) (r : Bool) (w : World) : ∀ i v w' w'', i ≠ 4 → Below w.heap.size w w' → woP T bx m c base A S x R r false i v w' → Below base w' w'' → woP T bx m c base A S x R r true i v w'' := by
  intro i v w' w'' hne _ h hb
  match i, h with
  | 0, h => exact h
  | 1, h => exact h
  | 2, h => exact fun e => by cases e
  | 3, h => exact h
  | 4, h => exact absurd rfl hne
  | 5, h => exact h
  | 6, h => exact h
  | 7, h => exact h
  | (k + 8), h => exact h.elim
set_option maxRecDepth 100000 in
set_option maxHeartbeats 16000000 in
theorem twithout_any {T X N : Nat} {L : List Pk} {w : World} (hT : TruthAt T X N L w) (hI : WhIn w) (A : Option Addr) (c : Nat) (S : List Int) (hS : Rd encI 1 w.heap.size A c S w) (hSl : S.length ≤ 5000) (x : Int) (R : RV) (hR : RTree w.heap.size w R) (hp : R.tree.parts ≤ 1000000) :
    Calls Tryz.prog 53 #[.pointer (some ⟨T, 0, none⟩), .slice A S.length c, .int .i64 x, R.val] w fun e w' => e = .returned (.bool (Tr.satS N (pvL L) (lessV S x) R.tree)) ∧ Below w.heap.size w w' := by
  have b1 := ((Below.refl w.heap.size w).alloc (Nat.le_refl _) (.cells #[.int .i64 x] 3)).alloc (by simp) (.cells #[.int .u8 R.kind, .string (bs R.dep.name), .int .u8 R.dep.op, .int .i64 R.dep.evr.epoch, .string (bs R.dep.evr.ver), .string (bs R.dep.evr.rel), .slice R.addr R.args.length R.cap] 39)
  have RB := RBx.new R (w.alloc (.cells #[.int .i64 x] 3))
  obtain ⟨V, hV⟩ : ∃ V, V = (w.alloc (.cells #[.int .i64 x] 3)).alloc (.cells #[.int .u8 R.kind, .string (bs R.dep.name), .int .u8 R.dep.op, .int .i64 R.dep.evr.epoch, .string (bs R.dep.evr.ver), .string (bs R.dep.evr.rel), .slice R.addr R.args.length R.cap] 39) := ⟨_, rfl⟩
  rw [← hV] at b1 RB
  have sz : (w.alloc (.cells #[.int .i64 x] 3)).heap.size = w.heap.size + 1 := World.size_alloc _ _
  rw [sz] at RB
  have xc : V.cell? ⟨w.heap.size, 0, none⟩ = some (.int .i64 x) := by rw [hV]; simp [go_sem]
  have xl : w.heap.size < V.heap.size := by rw [hV]; simp; omega
  have CL := Lib.hid (fun W (hb : Below V.heap.size V W) => show Calls Tryz.prog 111 #[.slice A S.length c] W _ from tclone_any A c S W ((hS.below (b1.trans (hb.mono b1.size))).more (Nat.le_trans b1.size hb.size)) hSl)
  have ST := Lib.hid (fun W (hb : Below V.heap.size V W) A' c' (hr : Rd encI 1 W.heap.size A' c' (lessV S x) W) => tsat_any (hT.then (b1.trans (hb.mono b1.size))) (hI.below (b1.trans (hb.mono b1.size))) A' c' (lessV S x) hr R ((hR.keeps (b1.trans (hb.mono b1.size))).more (Nat.le_trans b1.size hb.size)) hp)
  have DL := Lib.hid (fun W (hb : Below V.heap.size V W) v (ho : Own encI 1 V.heap.size 3 v S W) => less_eq S x ▸ delown_any 112 (fun _ _ => rfl) #[.pointer (some ⟨w.heap.size, 0, none⟩)] (fun z => z == x) S V.heap.size V W v ho hb hb.size hSl (fun z W' hb' => wout1_any z x w.heap.size W' ((hb'.cell (p := ⟨w.heap.size, 0, none⟩) xl).trans xc)))
  obtain ⟨m, hm⟩ : ∃ m, S.length = m := ⟨_, rfl⟩
  obtain ⟨r, hr⟩ : ∃ r, Tr.satS N (pvL L) (lessV S x) R.tree = r := ⟨_, rfl⟩
  rw [hm] at CL ⊢
  rw [hr] at ST ⊢
  unfold RV.val at *
  have B1 := Lib.hid b1
  have RBV := Lib.hid RB
  have HV := Lib.hid hV
  clear hT hI hS hR hp hm hr b1 RB xc xl sz hSl hV
  go_enter Tryz.func53, Tryz.ntmps53
  go_wp2_with fail
  rw [← HV.out]
  clear HV
  refine wp_region_phase (PP := woP T w.heap.size m c V.heap.size A S x R r) (RelS := Below V.heap.size) 8 4 rfl (by kernel_rfl) (by kernel_rfl) (by decide) (by decide) (by decide) (woP_mono T w.heap.size m c V.heap.size A S x R r V) (woP_monoS T w.heap.size m c V.heap.size A S x R r V) (fun b c h1 h2 => h1.trans (h2.mono h1.size)) (fun b c h1 h2 => h1.trans h2) (fun ii => match ii with | 7 => .bool false | _ => undef) (by simp [fillV, put_someT, setIfInBounds_toArray, set_cons_zero, set_cons_succ]) ?_ ?_ ?_
  · intro ph i o vs W hi hne ho he hor _ K hK
    simp only [take_succ_cons, take_zero, fillV, put_someT, setIfInBounds_toArray, set_cons_zero, set_cons_succ] at hK ⊢
    have BW := Lib.hid (show Below V.heap.size V W from hor.elim id id)
    have RBW := Lib.hid (RBV.out.then BW.out)
    obtain rfl | rfl | rfl | rfl | rfl | rfl | rfl | rfl := (show i = 0 ∨ i = 1 ∨ i = 2 ∨ i = 3 ∨ i = 4 ∨ i = 5 ∨ i = 6 ∨ i = 7 by exact (by have : i < 8 := hi; omega))
    · simp only [getElem?_toArray, getElem?_cons_zero, getElem?_cons_succ, Option.some.injEq] at ho
      subst ho
      rw [if_pos (by rfl)]
      simp only [put_someT, setIfInBounds_toArray, set_cons_zero, set_cons_succ] at hK
      have HK := Lib.hid hK
      clear hK he
      clear hor hi hne
      go_simp
      exact HK.out _ _ rfl (Below.refl _ _)
    · simp only [getElem?_toArray, getElem?_cons_zero, getElem?_cons_succ, Option.some.injEq] at ho
      subst ho
      rw [if_pos (by rfl)]
      simp only [put_someT, setIfInBounds_toArray, set_cons_zero, set_cons_succ] at hK
      have HK := Lib.hid hK
      clear hK he
      clear hor hi hne
      go_simp
      exact HK.out _ _ rfl (Below.refl _ _)
    · simp only [getElem?_toArray, getElem?_cons_zero, getElem?_cons_succ, Option.some.injEq] at ho
      subst ho
      have e1 : vs 1 = .slice A m c := (he ⟨1, .data⟩ (by simp) rfl : woP T w.heap.size m c V.heap.size A S x R r ph 1 (vs 1) W)
      rw [e1] at hK ⊢
      rw [if_pos (by rfl)]
      simp only [put_someT, setIfInBounds_toArray, set_cons_zero, set_cons_succ] at hK
      have HK := Lib.hid hK
      clear hK he
      clear hor hi hne
      have CLW := CL.out W BW.out
      go_simp
      go_at_call 111
      refine CLW.mono ?_
      rintro en w9 ⟨v9, rfl, ho, h⟩
      go_simp
      exact HK.out _ _ (fun _ => own_monoT ho BW.out.size) h
    · simp only [getElem?_toArray, getElem?_cons_zero, getElem?_cons_succ, Option.some.injEq] at ho
      subst ho
      rw [if_pos (by rfl)]
      simp only [put_someT, setIfInBounds_toArray, set_cons_zero, set_cons_succ] at hK
      have HK := Lib.hid hK
      clear hK he
      clear hor hi hne
      go_simp
      exact HK.out _ _ rfl (Below.refl _ _)
    · exact absurd rfl hne
    · simp only [getElem?_toArray, getElem?_cons_zero, getElem?_cons_succ, Option.some.injEq] at ho
      subst ho
      rw [if_pos (by rfl)]
      simp only [put_someT, setIfInBounds_toArray, set_cons_zero, set_cons_succ] at hK
      have HK := Lib.hid hK
      clear hK he
      clear hor hi hne
      obtain ⟨_, c0, c1, c2, c3, c4, c5, c6⟩ := RBW.out
      go_simp
      exact HK.out _ _ rfl (Below.refl _ _)
    · simp only [getElem?_toArray, getElem?_cons_zero, getElem?_cons_succ, Option.some.injEq] at ho
      subst ho
      have e0 : vs 0 = .pointer (some ⟨T, 0, none⟩) := (he ⟨0, .data⟩ (by simp) rfl : woP T w.heap.size m c V.heap.size A S x R r ph 0 (vs 0) W)
      rw [e0] at hK ⊢
      obtain ⟨A9, c9, e9, r9⟩ := (he ⟨4, .data⟩ (by simp) rfl : woP T w.heap.size m c V.heap.size A S x R r ph 4 (vs 4) W)
      rw [e9] at hK ⊢
      have R9 := Lib.hid r9
      have e5 : vs 5 = .agg #[.int .u8 R.kind, .string (bs R.dep.name), .int .u8 R.dep.op, .int .i64 R.dep.evr.epoch, .string (bs R.dep.evr.ver), .string (bs R.dep.evr.rel), .slice R.addr R.args.length R.cap] := (he ⟨5, .data⟩ (by simp) rfl : woP T w.heap.size m c V.heap.size A S x R r ph 5 (vs 5) W)
      rw [e5] at hK ⊢
      rw [if_pos (by rfl)]
      simp only [put_someT, setIfInBounds_toArray, set_cons_zero, set_cons_succ] at hK
      have HK := Lib.hid hK
      clear hK he
      clear hor hi hne
      have STW := ST.out W BW.out A9 c9 R9.out
      go_simp
      go_at_call 40
      refine STW.mono ?_
      rintro en w9 ⟨rfl, h⟩
      go_simp
      exact HK.out _ _ rfl h
    · simp only [getElem?_toArray, getElem?_cons_zero, getElem?_cons_succ, Option.some.injEq] at ho
      subst ho
      have e6 : vs 6 = .bool r := (he ⟨6, .data⟩ (by simp) rfl : woP T w.heap.size m c V.heap.size A S x R r ph 6 (vs 6) W)
      rw [e6] at hK ⊢
      rw [if_pos (by rfl)]
      simp only [put_someT, setIfInBounds_toArray, set_cons_zero, set_cons_succ] at hK
      have HK := Lib.hid hK
      clear hK he
      clear hor hi hne
      go_simp
      exact HK.out _ _ rfl (Below.refl _ _)
  · intro o vs W ho he hBW K hK
    simp only [take_succ_cons, take_zero, fillV, put_someT, setIfInBounds_toArray, set_cons_zero, set_cons_succ] at hK ⊢
    have BW := Lib.hid hBW
    simp only [getElem?_toArray, getElem?_cons_zero, getElem?_cons_succ, Option.some.injEq] at ho
    subst ho
    have OW := Lib.hid (show Own encI 1 V.heap.size 3 (vs 2) S W from (he ⟨2, .data⟩ (by simp) rfl : woP T w.heap.size m c V.heap.size A S x R r false 2 (vs 2) W) rfl)
    have e3 : vs 3 = .func (.func 112) #[] #[.pointer (some ⟨w.heap.size, 0, none⟩)] := (he ⟨3, .data⟩ (by simp) rfl : woP T w.heap.size m c V.heap.size A S x R r false 3 (vs 3) W)
    rw [e3] at hK ⊢
    rw [if_pos (by rfl)]
    simp only [put_someT, setIfInBounds_toArray, set_cons_zero, set_cons_succ] at hK
    have HK := Lib.hid hK
    clear hK he
    have DLW := DL.out W BW.out (vs 2) OW.out
    generalize vs 2 = y2 at *
    clear hBW
    go_simp
    go_at_call 110
    refine DLW.mono ?_
    rintro en w9 ⟨A9, c9, rfl, hr9, h⟩
    go_simp
    exact HK.out _ _ ⟨A9, c9, rfl, hr9⟩ h
  · intro vs W hall hBW
    have eo : vs 7 = .bool r := hall 7 (by decide)
    simp only [take_succ_cons, take_zero, List.drop_succ_cons, List.drop_zero, fillV, put_someT, put_noneC, setIfInBounds_toArray, set_cons_zero, set_cons_succ]
    rw [eo]
    generalize vs 0 = y0
    generalize vs 1 = y1
    generalize vs 2 = y2
    generalize vs 3 = y3
    generalize vs 4 = y4
    generalize vs 5 = y5
    generalize vs 6 = y6
    have BX := Lib.hid (B1.out.trans (hBW.mono B1.out.size))
    clear hall hBW eo
    go_wp2_with fail
    go_ret
    exact ⟨rfl, BX.out⟩
end
end Go.Proofs.YteobmfpbgnmffaaGreatDoor
