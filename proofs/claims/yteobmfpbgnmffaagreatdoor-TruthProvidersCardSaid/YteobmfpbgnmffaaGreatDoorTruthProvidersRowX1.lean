import Derived.Test.YteobmfpbgnmffaaGreatDoorTruthMoreRowG01
import Derived.Test.YteobmfpbgnmffaaGreatDoorTruthMoreRowG02
import Derived.Test.YteobmfpbgnmffaaGreatDoorTruthMoreRowG03
import Derived.Test.YteobmfpbgnmffaaGreatDoorTruthMoreRowG04
import Derived.Test.YteobmfpbgnmffaaGreatDoorTruthMoreRowG05
import Derived.Test.YteobmfpbgnmffaaGreatDoorTruthMoreRowG06
import Derived.Test.YteobmfpbgnmffaaGreatDoorTruthMoreRowG07
import Derived.Test.YteobmfpbgnmffaaGreatDoorTruthMoreRowG08
import Derived.Test.YteobmfpbgnmffaaGreatDoorTruthMoreRowG09
import Derived.Test.YteobmfpbgnmffaaGreatDoorTruthMoreRowG10
import Derived.Test.YteobmfpbgnmffaaGreatDoorTruthMoreRowG11
import Derived.Test.YteobmfpbgnmffaaGreatDoorTruthMoreRowG12
import Derived.Test.YteobmfpbgnmffaaGreatDoorTruthMoreRowG13
import Derived.Test.YteobmfpbgnmffaaGreatDoorTruthMoreRowG14
import Derived.Test.YteobmfpbgnmffaaGreatDoorTruthMoreRowG15
import Derived.Test.YteobmfpbgnmffaaGreatDoorTruthMoreRowG16
import Derived.Test.YteobmfpbgnmffaaGreatDoorTruthMoreRowG17
import Derived.Test.YteobmfpbgnmffaaGreatDoorTruthMoreRowG18
import Derived.Test.YteobmfpbgnmffaaGreatDoorTruthMoreRowG19
import Derived.Test.YteobmfpbgnmffaaGreatDoorTruthMoreRowG20
import Derived.Test.YteobmfpbgnmffaaGreatDoorTruthMoreRowG21
import Derived.Test.YteobmfpbgnmffaaGreatDoorTruthMoreRowG22
import Derived.Test.YteobmfpbgnmffaaGreatDoorTruthMoreRowG23
import Derived.Test.YteobmfpbgnmffaaGreatDoorTruthMoreRowG24
import Derived.Test.YteobmfpbgnmffaaGreatDoorTruthMoreRowG25
import Derived.Test.YteobmfpbgnmffaaGreatDoorTruthMoreRowG26
import Derived.Test.YteobmfpbgnmffaaGreatDoorTruthMoreRowG27
import Derived.Test.YteobmfpbgnmffaaGreatDoorTruthMoreRowG28
import Derived.Test.YteobmfpbgnmffaaGreatDoorTruthMoreRowG29
import Derived.Test.YteobmfpbgnmffaaGreatDoorTruthMoreRowG30
import Derived.Test.YteobmfpbgnmffaaGreatDoorTruthMoreRowG31
import Derived.Test.YteobmfpbgnmffaaGreatDoorTruthMoreRowG32
import Derived.Test.YteobmfpbgnmffaaGreatDoorTruthMoreRowG33
import Derived.Test.YteobmfpbgnmffaaGreatDoorTruthMoreRowG34
import Derived.Test.YteobmfpbgnmffaaGreatDoorTruthMoreRowG35
import Derived.Test.YteobmfpbgnmffaaGreatDoorTruthMoreRowG36
import Derived.Test.YteobmfpbgnmffaaGreatDoorTruthMoreRowG37
import Derived.Test.YteobmfpbgnmffaaGreatDoorTruthMoreRowG38
import Derived.Test.YteobmfpbgnmffaaGreatDoorTruthMoreRowG39
import Derived.Test.YteobmfpbgnmffaaGreatDoorTruthMoreRowG40
import Derived.Test.YteobmfpbgnmffaaGreatDoorTruthMoreRowG41
import Derived.Test.YteobmfpbgnmffaaGreatDoorTruthMoreRowG42
import Derived.Test.YteobmfpbgnmffaaGreatDoorTruthMoreRowG43
import Derived.Test.YteobmfpbgnmffaaGreatDoorTruthMoreRowG44
import Derived.Test.YteobmfpbgnmffaaGreatDoorTruthMoreRowG45
import Derived.Test.YteobmfpbgnmffaaGreatDoorTruthMoreRowG46
import Derived.Test.YteobmfpbgnmffaaGreatDoorTruthMoreRowG48
import Derived.WalkKit
import Derived.WalkSpells
import Derived.WalkLawsBesides
import Derived.Deep.AppendLies
import Derived.Deep.Draws
import Derived.Lib.Hide
import Derived.Lib.Strings
import Derived.Maps.AppendAt
import Derived.Deep.QuietTactic
import Derived.BigQuiet
import Derived.RangeFuncNested
import Derived.RangeFuncBound
import Derived.RangeFuncCalls
import Derived.RangeFuncLeaves
import Derived.RangeFuncBox
import Derived.Shelf.Abstract
import Derived.Shelf.RegionOpen
import Derived.OwnWalkIn
import Derived.TacticsInMore
import Derived.LoopNIn
import Derived.LoopIn
import Derived.StillTailTactics
import Derived.RegionTactic
import Derived.ChangeAlike
import Derived.Sort.Walk0
import Derived.Deep.RegionWith
import Derived.ProofKit
import Derived.OpenShut
import Derived.ShutString
import Derived.ChangeOld
import Derived.SizedLaws
import Derived.SliceStrings
import Derived.ChangeSame
import Derived.Lib.SmallJoins
import Derived.Lib.SplitLaws
import Derived.Lib.ItoaNum
import Derived.Lib.AtoiAll
import Derived.Lib.IndexMore
import Derived.Lib.AppendIntMem
import Derived.Deep.RegionHeld3
import Derived.Maps.RangeWalk
import Derived.Maps.StringElems
import Derived.Maps.OwnOps
import Derived.Lib.Split
import Derived.Lib.Join
import Derived.Laws.RangeAny
import Derived.Deep.RegionLaw
import Derived.Laws.IdiomStrings
import Derived.Shelf.Strings.BuilderX
import Derived.Lib.Builder
import Derived.Lib.AppendStr
import Derived.Lib.UnsafeStr
import Derived.Laws.Externs
import Derived.Defers
import Derived.Recover
import Derived.Orders
import Derived.OrdersHeld
import Derived.ArgAppend
import Derived.Laws.EntriesVeiled
import Derived.Deep.Cut
import Derived.Deep.WholeRow
import Derived.Maps.GroupsBeside
import Derived.Maps.OwnSet
import Derived.Laws.MakeOwn
import Derived.Maps.OwnIn
import Derived.Lay
import Derived.LaidMore
import Derived.LaidLaws
import Derived.Lib.LaidIn
import Derived.Lib.LaidU8
import Derived.Lib.LaidTab
import Derived.JoinedOf
import Derived.SevenTiedAt
set_option linter.unusedSimpArgs false
set_option linter.unusedVariables false
/- Base, VmPlain, VmW0 -/
set_option linter.unusedSimpArgs false
set_option linter.unusedVariables false
namespace Go.Proofs.YteobmfpbgnmffaaGreatDoor
section
/- Small words for memory that all walks of this seat share: a slice that reads as a list of data ('Rd'), rows that the call owns, frames. -/










open Go.RowKit

section
variable {α : Type} {enc : α → List Value} {size B B' cap : Nat} {A : Option Addr} {l : List α} {w w' : World}
end

section
variable {α : Type} {enc : α → List Value} {size base base' : Nat} {e : TypeId} {v : Value} {l : List α} {w w' : World}
theorem Own.alloc (h : Own enc size base e v l w) (o : Obj) : Own enc size base e v l (w.alloc o) := World.ownsRow.alloc h o
end
end
section
/- The parts of a version, in plain terms. Nothing of the program here. -/


open Go.RowKit

end
section
/- Walks: the plain functions of vercmp, of its document, and of Go's cmp and strings that it asks. -/




open Go.RowKit

/- the parts compared -/
end
end Go.Proofs.YteobmfpbgnmffaaGreatDoor

/- StPlain, TrPlain, IxPlain, StSmall -/
set_option linter.unusedSimpArgs false
set_option linter.unusedVariables false
namespace Go.Proofs.YteobmfpbgnmffaaGreatDoor
section
/- Plain law: what comes and goes from what is installed to a state, over whatever packages. -/


set_option linter.unusedVariables false
namespace St

section
variable (I : Nat) (nm ob : Nat → Nat → Bool) (cmp : Nat → Nat → Int) (S : List Int)
end
section
variable {I N : Nat} {nm ob : Nat → Nat → Bool} {cmp : Nat → Nat → Int} {S : List Int}
end
end St
end
section
/- Plain law: whether packages satisfy a rich dependency, and what follows. -/



open Go.RowKit Go.Shelf
set_option linter.unusedVariables false
namespace Tr

section
variable {N : Nat} {pv : Nat → Dp → Bool}
theorem anyN_congr {p q : Nat → Bool} (h : ∀ n, n < N → p n = q n) : anyN N p = anyN N q := by
  rw [Bool.eq_iff_iff, anyN_iff, anyN_iff]
  exact ⟨fun ⟨n, hn, e⟩ => ⟨n, hn, by rw [← h n hn]; exact e⟩, fun ⟨n, hn, e⟩ => ⟨n, hn, by rw [h n hn]; exact e⟩⟩
theorem anyN_one {p : Nat → Bool} {n : Nat} (h : n < N) : anyN N (fun m => one n m && p m) = p n := by
  rw [Bool.eq_iff_iff, anyN_iff]
  constructor
  · rintro ⟨m, hm, e⟩
    rw [Bool.and_eq_true] at e
    have : m = n := by simpa [one] using e.1
    rw [← this]; exact e.2
  · intro e
    exact ⟨n, h, by simp [one, e]⟩
/- more packages -/
/- TruthTurned -/
end
end Tr
end
section
/- Plain law: by what names a package is offered, and who provides a dependency by an index of these. -/




open Go.RowKit Go.Shelf Go.Maps
set_option linter.unusedVariables false

end
section
/- Walks: the small functions of the steps' statements. -/



open Go.RowKit Go.Shelf
set_option linter.unusedVariables false

end
end Go.Proofs.YteobmfpbgnmffaaGreatDoor

/- TrMeas -/
set_option linter.unusedSimpArgs false
set_option linter.unusedVariables false
/- Walks: is a rich dependency whole (rich.measure, rich.Whole). -/


namespace Go.Proofs.YteobmfpbgnmffaaGreatDoor
open Go.RowKit Go.Shelf
set_option linter.unusedVariables false

theorem whole_okB {t : RT} (h : t.whole = true) : t.okB = true := by unfold RT.whole at h; simp only [Bool.and_eq_true] at h; exact h.1
end Go.Proofs.YteobmfpbgnmffaaGreatDoor

/- TrWho, RichArgs, RichArgsK -/
set_option linter.unusedSimpArgs false
set_option linter.unusedVariables false
namespace Go.Proofs.YteobmfpbgnmffaaGreatDoor
section
/- Walks: whether a package alone satisfies it, and who does (truth: Alone, Who). -/


open Go.RowKit Go.Shelf
set_option linter.unusedVariables false

end
section
/- How the arguments of rich's statements are opened: rows, dependencies, rich dependencies. -/



open Go.ChangeShapes Go.WideShapes Go.ChangeAt Go.RowKit
set_option linter.unusedVariables false

section
variable {H : Type} {enc : TypeId × Value → H} {P : Program} {W : World} {held : Bool} {t e ti ts tu te td tr tl : TypeId} {f0 f1 f2 g0 g1 g2 r0 r1 r2 : Field} {sp : Nat → Bool}

end
end
section
/- Rich dependencies as arguments: their kinds are bytes. -/



open Go.ChangeShapes Go.WideShapes Go.ChangeAt Go.RowKit
set_option linter.unusedVariables false

section
variable {H : Type} {enc : TypeId × Value → H} {P : Program} {W : World} {held : Bool} {t e ti ts tu te td tr tl : TypeId} {f0 f1 f2 g0 g1 g2 r0 r1 r2 : Field} {sp : Nat → Bool}

theorem arg_richK {r : Reach} {b0 : Nat} {v : Value} {d : DataW H} {p : List MemPlace} (hr : P.underlying tr = some (.struct #[r0, r1, r2])) (hR : (r0.type, r0.offset, r1.type, r1.offset, r2.type, r2.offset) = (tu, 0, td, 1, tl, 6)) (hl0 : P.underlying tl = some (.slice tr))
    (hd : P.underlying td = some (.struct #[g0, g1, g2])) (hG : (g0.type, g0.offset, g1.type, g1.offset, g2.type, g2.offset) = (ts, 0, tu, 1, te, 2))
    (hs : P.underlying te = some (.struct #[f0, f1, f2])) (hF : (f0.type, f0.offset, f1.type, f1.offset, f2.type, f2.offset) = (ti, 0, ts, 1, ts, 2))
    (hi : P.underlying ti = some (.int .i64)) (hst : P.underlying ts = some .string) (hu : P.underlying tu = some (.int .u8)) (hC : (P.cellsOf ti == 1 && P.cellsOf ts == 1 && P.cellsOf te == 3 && P.cellsOf tu == 1 && P.cellsOf td == 5) = true) (hC2 : (P.cellsOf tr == 7 && P.cellsOf tl == 1) = true)
    (hval : Value.okWide P W r b0 tr v) (h : DataW.Trod enc P W 0 sp held tr v d p) : ∃ y : RV, v = .agg (encR y).toArray ∧ (RTree W.heap.size W y ∧ KO y) := by
  obtain ⟨cs, rfl, hsz⟩ := okWide_struct hr hval
  obtain ⟨fuel, hf⟩ := h
  obtain ⟨y, he, hT⟩ := trod_richK hr hR hl0 hd hG hs hF hi hst hu hC hC2 fuel _ _ hf
  obtain ⟨l⟩ := cs
  have he' : l = encR y := he
  exact ⟨y, by rw [he'], hT⟩
end
end
end Go.Proofs.YteobmfpbgnmffaaGreatDoor

/- TrPl, St14Much, St14Large, St14Wide, PoolNo -/
set_option linter.unusedSimpArgs false
set_option linter.unusedVariables false
namespace Go.Proofs.YteobmfpbgnmffaaGreatDoor
section
/- Walks: neither If nor Unless; what a statement of truth makes (chandlerylaw14: plain, made). -/



open Go.RowKit Go.Shelf
set_option linter.unusedVariables false

end
section
/- Walk: of how many parts rich dependencies are (chandlerylaw14.much). -/


open Go.RowKit Go.Shelf
set_option linter.unusedVariables false

end
section
/- Walk: whether a package is more than a statement goes over (chandlerylaw14.large). -/



open Go.RowKit Go.Shelf
set_option linter.unusedVariables false

end
section
/- Walk: whether repositories, what is installed, a state and a rich dependency are more than a statement goes over (chandlerylaw14.wide). -/




open Go.RowKit Go.Shelf
set_option linter.unusedVariables false

end
section
/- Walk: the package of a number that is none of the pool's ((*pool.Pool).Package). -/


open Go.RowKit Go.Shelf
set_option linter.unusedVariables false

set_option maxRecDepth 100000 in
set_option maxHeartbeats 16000000 in
theorem poolpkg_no {P : Nat} {I : Int} {L : List Pr} {w : World} (hp : Pool P I L w) {k : Int} (hk : ¬ (0 ≤ k ∧ k < (L.length : Int))) (hn0 : L.length ≤ 1000000) : Calls Tryz.prog 48 #[.pointer (some ⟨P, 0, none⟩), .int .i64 k] w fun e w' => e = .returned (.tuple #[.agg #[.string ⟨#[]⟩, .int .i64 0, .string ⟨#[]⟩, .string ⟨#[]⟩, .int .u8 0, .string ⟨#[]⟩, .slice none 0 0, .slice none 0 0, .slice none 0 0, .slice none 0 0, .slice none 0 0, .slice none 0 0, .slice none 0 0, .slice none 0 0, .slice none 0 0], .int .i64 5]) ∧ Below w.heap.size w w' := by
  obtain ⟨A, c, h0, hr⟩ := hp.at_.row
  have hlt := hp.at_.lt
  have IS := Lib.hid (fun A c (W : World) => prows_is A c k L.length W hn0)
  obtain ⟨n, hn9⟩ : ∃ n, n = L.length := ⟨_, rfl⟩
  rw [← hn9] at h0 IS hk
  have F1 := Lib.hid (show decide (0 ≤ k ∧ k < (n : Int)) = false from decide_eq_false hk)
  clear hp hr hk hn9 hn0
  have B0 := (Below.refl w.heap.size w).alloc (Nat.le_refl _) (.cells #[.string ⟨#[]⟩, .int .i64 0, .string ⟨#[]⟩, .string ⟨#[]⟩, .int .u8 0, .string ⟨#[]⟩, .slice none 0 0, .slice none 0 0, .slice none 0 0, .slice none 0 0, .slice none 0 0, .slice none 0 0, .slice none 0 0, .slice none 0 0, .slice none 0 0] 28)
  have C0 := Lib.hid ((B0.cell (p := ⟨P, 0, none⟩) hlt).trans h0)
  have B0 := Lib.hid B0
  have Z0 := Lib.hid (Box15.new w)
  go_enter Tryz.func48, Tryz.ntmps48
  go_wp2_with fail
  go_at_call 102
  refine (IS.out _ _ _).mono ?_
  rintro e w1 ⟨rfl, h⟩
  rw [F1.out]
  have B1 := Lib.hid (B0.out.trans (h.mono B0.out.size))
  have Z1 := Lib.hid (Z0.out.then h)
  clear h B0 Z0 C0 h0 F1
  obtain ⟨⟨zl, z0, z1, z2, z3, z4, z5, z6, z7, z8, z9, z10, z11, z12, z13, z14⟩, fz, _⟩ := Z1.out
  have f0 := fz 0 (by omega)
  have f1 := fz 1 (by omega)
  have f2 := fz 2 (by omega)
  have f3 := fz 3 (by omega)
  have f4 := fz 4 (by omega)
  have f5 := fz 5 (by omega)
  have f6 := fz 6 (by omega)
  have f7 := fz 7 (by omega)
  have f8 := fz 8 (by omega)
  have f9 := fz 9 (by omega)
  have f10 := fz 10 (by omega)
  have f11 := fz 11 (by omega)
  have f12 := fz 12 (by omega)
  have f13 := fz 13 (by omega)
  have f14 := fz 14 (by omega)
  have R1 := Lib.hid (Z1.out.set zPk)
  have R3 := Lib.hid (setL_below (B := w.heap.size) (R := w.heap.size) (Nat.le_refl _) zPk.cells 0 w1)
  clear fz zl
  unfold zPk at z0 z1 z2 z3 z4 z5 z6 z7 z8 z9 z10 z11 z12 z13 z14
  go_wp2_with fail
  obtain ⟨Y, hY⟩ : ∃ Y, Y = setL w.heap.size 0 zPk.cells w1 := ⟨_, rfl⟩
  have hY2 := hY
  simp only [setL, zPk, Pk.cells, Nat.zero_add, Nat.reduceAdd, List.length_nil, Int.ofNat_zero] at hY2
  rw [← hY] at R1 R3
  rw [← hY2]
  clear hY hY2 z0 z1 z2 z3 z4 z5 z6 z7 z8 z9 z10 z11 z12 z13 z14
  obtain ⟨⟨_, c0, c1, c2, c3, c4, c5, c6, c7, c8, c9, c10, c11, c12, c13, c14⟩, _, _⟩ := R1.out
  unfold zPk at c0 c1 c2 c3 c4 c5 c6 c7 c8 c9 c10 c11 c12 c13 c14
  simp only [List.length_nil] at c6 c7 c8 c9 c10 c11 c12 c13 c14
  refine bodyPost_ret (v := .tuple #[.agg #[.string ⟨#[]⟩, .int .i64 0, .string ⟨#[]⟩, .string ⟨#[]⟩, .int .u8 0, .string ⟨#[]⟩, .slice none 0 0, .slice none 0 0, .slice none 0 0, .slice none 0 0, .slice none 0 0, .slice none 0 0, .slice none 0 0, .slice none 0 0, .slice none 0 0], .int .i64 5]) (by simp [results, Tryz.results48, go_sem, c0, c1, c2, c3, c4, c5, c6, c7, c8, c9, c10, c11, c12, c13, c14]; try rfl) rfl ?_
  exact ⟨rfl, B1.out.trans R3.out⟩
end
end Go.Proofs.YteobmfpbgnmffaaGreatDoor

/- ShTellF -/
set_option linter.unusedSimpArgs false
set_option linter.unusedVariables false
/- Walks: shape's iterator, where a round appends to a row of its own: what is foreign to that row stays. -/

namespace Go.Proofs.YteobmfpbgnmffaaGreatDoor
open Go.RowKit Go.Shelf
set_option linter.unusedVariables false
attribute [local go_sem] Oper.semAt_some
attribute [local go_sem ↓ high] asked_wide

/-- the box of a row under way is there, and the row's block with it -/
def GD (R : Nat) (W : World) : Prop := ∃ v, W.cell? ⟨R, 0, none⟩ = some v ∧ ∀ j, v.ownBlock = some j → j < W.heap.size
/-- a block that is neither the row's box nor its block -/
def Fo (R b : Nat) (W : World) : Prop := b < W.heap.size ∧ b ≠ R ∧ ∀ v, W.cell? ⟨R, 0, none⟩ = some v → v.ownBlock ≠ some b
/-- what is foreign stays, and stays foreign -/
def KF (R : Nat) (W W' : World) : Prop := GD R W → GD R W' ∧ W.heap.size ≤ W'.heap.size ∧ ∀ b, Fo R b W → Fo R b W' ∧ ∀ i v, W.cell? ⟨b, i, none⟩ = some v → W'.cell? ⟨b, i, none⟩ = some v
theorem KF.refl (R : Nat) (W : World) : KF R W W := fun h => ⟨h, Nat.le_refl _, fun _ hb => ⟨hb, fun _ _ h => h⟩⟩
theorem KF.trans {R : Nat} {A B C : World} (h : KF R A B) (k : KF R B C) : KF R A C := fun g => by
  obtain ⟨g1, s1, h1⟩ := h g
  obtain ⟨g2, s2, h2⟩ := k g1
  exact ⟨g2, Nat.le_trans s1 s2, fun b hb => ⟨(h2 b (h1 b hb).1).1, fun i v hv => (h2 b (h1 b hb).1).2 i v ((h1 b hb).2 i v hv)⟩⟩
theorem kf_t {R : Nat} {A B C : World} (h : KF R A B) (k : KF R B C) : KF R A C := h.trans k
theorem KF.of {R : Nat} {W W' : World} (h : Below W.heap.size W W') : KF R W W' := fun ⟨v, hv, hj⟩ => by
  have hl := World.block_lt_of_cell? W _ hv
  refine ⟨⟨v, (h.cell hl).trans hv, fun j e => Nat.lt_of_lt_of_le (hj j e) h.size⟩, h.size, fun b hb => ⟨⟨Nat.lt_of_lt_of_le hb.1 h.size, hb.2.1, fun u hu => hb.2.2 u ((h.cell hl).symm.trans hu)⟩, fun i u hu => (h.cell (p := ⟨b, i, none⟩) hb.1).trans hu⟩⟩
theorem KF.alloc {R : Nat} (W : World) (o : Obj) : KF R W (W.alloc o) := KF.of ((Below.refl _ _).alloc (Nat.le_refl _) o)
theorem KF.cell {R b i : Nat} {W W' : World} {v : Value} (h : KF R W W') (g : GD R W) (hb : Fo R b W) (hv : W.cell? ⟨b, i, none⟩ = some v) : W'.cell? ⟨b, i, none⟩ = some v := ((h g).2.2 b hb).2 i v hv
theorem KF.fo {R b : Nat} {W W' : World} (h : KF R W W') (g : GD R W) (hb : Fo R b W) : Fo R b W' := ((h g).2.2 b hb).1
theorem Fo.new {R : Nat} {W : World} (h : GD R W) (o : Obj) : Fo R W.heap.size (W.alloc o) := by
  obtain ⟨v, hv, hj⟩ := h
  have hl : R < W.heap.size := World.block_lt_of_cell? W _ hv
  refine ⟨by simp, by omega, fun u hu e => ?_⟩
  have h2 := (((Below.refl _ W).alloc (Nat.le_refl _) o).cell (p := ⟨R, 0, none⟩) hl).trans hv
  rw [h2] at hu
  cases hu
  exact absurd (hj _ e) (Nat.lt_irrefl _)
theorem kf_b {R : Nat} (W : World) (l : Nat) (o o' : Obj) (h : W.heap[l]? = some o) (hc : o.isCells = false) : KF R W (W.putObj l o') := fun ⟨v, hv, hj⟩ => by
  have hk : ∀ (a : Addr) (u : Value), W.cell? a = some u → (W.putObj l o').cell? a = some u := fun a u hu => cell_kept hu (grownBy_putObj' W l o') (fun r e => by cases e; exact ⟨o, h, hc⟩)
  have hs := (grownBy_putObj' W l o').size
  refine ⟨⟨v, hk _ _ hv, fun j e => Nat.lt_of_lt_of_le (hj j e) hs⟩, hs, fun b hb => ⟨⟨Nat.lt_of_lt_of_le hb.1 hs, hb.2.1, fun u hu => ?_⟩, fun i u hu => hk _ _ hu⟩⟩
  rw [hk _ _ hv] at hu
  cases hu
  exact hb.2.2 _ hv
abbrev TF (R : Nat) (W : World) (t : RV) : Prop := TQ (fun b => Fo R b W) W t
theorem TQ.kf {R : Nat} {W W' : World} {t : RV} (h : TF R W t) (k : KF R W W') (g : GD R W) : TF R W' t := by
  induction h with
  | mk h1 h2 h3 h4 _ ih =>
    refine .mk h1 h2 h3 (fun q hq => ?_) ih
    obtain ⟨b, o, e, hb, hc⟩ := h4 q hq
    exact ⟨b, o, e, k.fo g hb, fun j u hu => k.cell g hb (hc j u hu)⟩
def TellPostF (R : Nat) (J Jx : List PtX → World → Prop) (al : Bool) (T : RV) (pre : List PtX) (W : World) (e : Ending) (W' : World) : Prop :=
  (e = .returned (.bool true) ∧ (∃ ys, firsts ys = pl al T ∧ J (pre ++ ys) W') ∧ KF R W W') ∨ (e = .returned (.bool false) ∧ ∃ q, firsts q <+: pl al T ∧ Jx (pre ++ q) W')
set_option maxRecDepth 100000 in
set_option maxHeartbeats 16000000 in
theorem tellf_in (l R tb N : Nat) (J Jx : List PtX → World → Prop) (hAl : ∀ pre W o, J pre W → J pre (W.alloc o))
    (hY : ∀ m pre (x : PtX) W, J pre W → pre.length < N → YieldAt Fence.wide m Tryz.prog l (pxArgs x) W fun e W' => (e = .returned (.bool true) ∧ J (pre ++ [x]) W' ∧ KF R W W') ∨ (e = .returned (.bool false) ∧ Jx (pre ++ [x]) W')) :
    ∀ (f : Nat) (T : RV) (al : Bool) (n : Nat) (pre : List PtX) (W : World), T.ht ≤ f → KO T → TF R W T → GD R W → Fo R tb W → W.cell? ⟨tb, 0, none⟩ = some (tellV tb) → J pre W → pre.length + (pl al T).length ≤ N →
      CallsIn Fence.wide n Tryz.prog 143 #[T.val, .bool al, .func (.yield l) #[] #[], .pointer (some ⟨tb, 0, none⟩)] W (TellPostF R J Jx al T pre W)
  | 0, T, _, _, _, _, hf, _, _, _, _, _, _, _ => absurd hf (by rw [ht_args]; omega)
  | f + 1, T, al, n, pre, W, hf, hko, hT, hG, hF, hc, hJ, hN => by
    have IH := Lib.hid (fun x al' pre' W' h1 h2 h3 h4 h5 h6 h7 h8 => tellf_in l R tb N J Jx hAl hY f x al' (n - 1) pre' W' h1 h2 h3 h4 h5 h6 h7 h8)
    have HF := Lib.hid (show htL T.args ≤ f by rw [ht_args] at hf; omega)
    have HN := Lib.hid (show pre.length + 1 + (plL (alone al T.kind) T.args).length ≤ N by rw [pl_eq, List.length_cons] at hN; omega)
    obtain ⟨x, hx⟩ : ∃ x : PtX, x.1 = (T, al) := ⟨⟨(T, al), hT.wf, hko⟩, rfl⟩
    have HKO := Lib.hid hko.sub
    have PE := Lib.hid (pl_eq al T)
    obtain ⟨W1, hW1⟩ : ∃ W1, W1 = W.alloc (.cells #[.int .u8 T.kind, .string (bs T.dep.name), .int .u8 T.dep.op, .int .i64 T.dep.evr.epoch, .string (bs T.dep.evr.ver), .string (bs T.dep.evr.rel), .slice T.addr T.args.length T.cap] 39) := ⟨_, rfl⟩
    have hb1 : Below W.heap.size W W1 := by rw [hW1]; exact (Below.refl _ _).alloc (Nat.le_refl _) _
    obtain ⟨fn, tm, as_, bd, hy, hRd⟩ := hY (n - 1) pre x W1 (by rw [hW1]; exact hAl _ _ _ hJ) (by have := HN.out; omega)
    have hB7 := Box7.new W (.int .u8 T.kind) (.string (bs T.dep.name)) (.int .u8 T.dep.op) (.int .i64 T.dep.evr.epoch) (.string (bs T.dep.evr.ver)) (.string (bs T.dep.evr.rel)) (.slice T.addr T.args.length T.cap) 39
    rw [← hW1] at hB7
    unfold pxArgs at hy
    rw [hx] at hy
    unfold RV.val at hy ⊢
    dsimp only at hy
    have HT := Lib.hid (hT.kf (KF.of (R := R) hb1) hG)
    have HC := Lib.hid ((KF.of (R := R) hb1).cell hG hF hc)
    have HB := Lib.hid hB7
    have HX := Lib.hid hx
    have HG1 := Lib.hid ((KF.of (R := R) hb1) hG).1
    have HF1 := Lib.hid ((KF.of (R := R) hb1).fo hG hF)
    have HN0 := Lib.hid (show Fo R W.heap.size W1 by rw [hW1]; exact Fo.new hG _)
    have K1 := Lib.hid (KF.of (R := R) hb1)
    have hlm : T.args.length ≤ maxLen := by cases hT with | mk _ h2 h3 _ _ => omega
    unfold maxLen at hlm
    clear hf hko hT hc hJ hN hx hb1 hB7 hG hF
    subst hW1
    refine callsIn_of_wp Tryz.func143 rfl trivial ?_ rfl
    simp only [Tryz.ntmps143, List.size_toArray, List.length_cons, List.length_nil, Nat.reduceAdd, Nat.reduceSub, Array.replicate_succ, Array.replicate_zero, List.push_toArray, List.append_toArray, List.nil_append, List.cons_append]
    gi_wp2
    refine ⟨fun h => absurd h (by decide), hRd.mono ?_⟩
    rintro e W2 (⟨rfl, hJ2, hk2⟩ | ⟨rfl, hJx⟩)
    rotate_left
    · gi_wp2
      go_ret
      exact .inr ⟨rfl, [x], ⟨plL (alone al T.kind) T.args, by rw [PE.out]; simp [firsts, HX.out]⟩, hJx⟩
    have c0 := hk2.cell HG1.out HN0.out HB.out.1.1
    have c6 := hk2.cell HG1.out HN0.out HB.out.1.2.2.2.2.2.2
    have K2 := Lib.hid (K1.out.trans hk2)
    have HT2 := Lib.hid (HT.out.kf hk2 HG1.out)
    have HC2 := Lib.hid (hk2.cell HG1.out HF1.out HC.out)
    have HJ2 := Lib.hid hJ2
    have HG2 := Lib.hid (hk2 HG1.out).1
    have HF2 := Lib.hid (hk2.fo HG1.out HF1.out)
    have HAl := Lib.hid hAl
    clear hk2 hJ2 hy hRd HT HC HB HG1 HF1 HN0 K1
    cases al
    · by_cases k6 : T.kind = 6
      · rw [show alone false T.kind = true by unfold alone; rw [k6]; rfl] at HN PE
        have k6b : (T.kind == 6) = true := by simpa using k6
        clear k6
        gi_wp2
        gi_loopw [29] (fun iv wr => ∃ (i : Nat) (ys : List PtX), i ≤ T.args.length ∧ iv = .int .i64 (i : Int) ∧ firsts ys = plL true (T.args.take i) ∧ J (pre ++ x :: ys) wr ∧ KF R W2 wr) (fun iv _ => T.args.length - (intOf iv).toNat)
        case atStart => exact ⟨0, [], Nat.zero_le _, rfl, rfl, HJ2.out, KF.refl _ _⟩
        case round =>
          obtain ⟨i, ys, hi, rfl, hys, hJ3, hk3⟩ := hrel
          rename World => wr
          have HYS := Lib.hid hys
          have HJ3 := Lib.hid hJ3
          have K3 := Lib.hid hk3
          clear hys hJ3 hk3 HJ2 c0 c6
          by_cases hlt : i < T.args.length
          · obtain ⟨b, o, hadr, e0, e1, e2, e3, e4, e5, e6⟩ := (HT2.out.kf K3.out HG2.out).at_ hlt
            have ct : wr.cell? ⟨tb, 0, none⟩ = some (tellV tb) := K3.out.cell HG2.out HF2.out HC2.out
            have hg3 := (K3.out HG2.out).1
            have hf3 := K3.out.fo HG2.out HF2.out
            have ctl : tb < wr.heap.size := World.block_lt_of_cell? wr _ ct
            have hsn := plL_snoc true T.args i hlt
            have HSN := Lib.hid hsn
            have hln : (pre ++ x :: ys).length + (pl true T.args[i]).length ≤ N := by
              have h1 := HN.out
              have h2 := plL_len true T.args (i + 1)
              have h3 := congrArg List.length hsn
              have h4 := congrArg List.length HYS.out
              rw [List.length_append] at h3
              rw [firsts_len] at h4
              rw [List.length_append, List.length_cons]
              omega
            have IC := Lib.hid (fun ob => IH.out T.args[i] true (pre ++ x :: ys) (wr.alloc ob) (Nat.le_trans (ht_mem (List.getElem_mem hlt)) HF.out) (HKO.out _ (List.getElem_mem hlt)) (((HT2.out.kf K3.out HG2.out).sub _ (List.getElem_mem hlt)).kf (KF.alloc _ ob) hg3) ((KF.alloc _ ob) hg3).1 ((KF.alloc _ ob).fo hg3 hf3) ((KF.alloc _ ob).cell hg3 hf3 ct) (hAl _ _ ob HJ3.out) hln)
            rw [hadr]
            unfold RV.val at IC
            unfold tellV at ct
            have i0 : (0 : Int) ≤ (i : Int) := by omega
            have i1 : (i : Int) < (T.args.length : Int) := by omega
            clear hsn hln hadr IH HJ3 hg3 hf3
            generalize T.args[i] = y at *
            gi_wp2
            refine ⟨trivial, fun h => absurd h (by decide), ?_⟩
            gi_at_call 143
            refine (IC.out _).mono ?_
            rintro e W4 (⟨rfl, ⟨zs, hzs, hJ4⟩, hk4⟩ | ⟨rfl, q, hq, hJx⟩)
            · have HZ := Lib.hid hzs
              have HJ4 := Lib.hid hJ4
              have K4 := Lib.hid ((K3.out.trans (KF.alloc _ _)).trans hk4)
              clear hzs hJ4 hk4 IC e0 e1 e2 e3 e4 e5 e6 ct ctl
              gi_wp2
              go_roundw
              case rel => exact ⟨i + 1, ys ++ zs, by omega, by go_num, by rw [firsts_app, HYS.out, HZ.out, HSN.out], by have := HJ4.out; simpa using this, K4.out⟩
              case measure => simp [intOf]; omega
            · have HQ := Lib.hid hq
              have HJX := Lib.hid hJx
              clear hq hJx IC e0 e1 e2 e3 e4 e5 e6 ct ctl
              gi_wp2
              go_ret
              refine .inr ⟨rfl, x :: ys ++ q, ?_, by have := HJX.out; simpa using this⟩
              obtain ⟨t, ht⟩ := HQ.out
              have h5 := plL_app true (T.args.take (i + 1)) (T.args.drop (i + 1))
              rw [List.take_append_drop, HSN.out, ← HYS.out, ← ht] at h5
              refine ⟨t ++ plL true (T.args.drop (i + 1)), ?_⟩
              rw [PE.out, h5]
              simp [firsts, HX.out]
          · obtain rfl : i = T.args.length := by omega
            clear IH
            gi_wp2
            go_ret
            refine .inl ⟨rfl, ⟨x :: ys, ?_, HJ3.out⟩, K2.out.trans K3.out⟩
            have h6 := HYS.out
            rw [List.take_of_length_le (Nat.le_refl _)] at h6
            rw [PE.out, ← h6]
            simp [firsts, HX.out]
      · have k6b : (T.kind == 6) = false := by simpa using k6
        by_cases k7 : T.kind = 7
        · rw [show alone false T.kind = true by unfold alone; rw [k7]; rfl] at HN PE
          have k7b : (T.kind == 7) = true := by simpa using k7
          clear k6 k7
          gi_wp2
          gi_loopw [29] (fun iv wr => ∃ (i : Nat) (ys : List PtX), i ≤ T.args.length ∧ iv = .int .i64 (i : Int) ∧ firsts ys = plL true (T.args.take i) ∧ J (pre ++ x :: ys) wr ∧ KF R W2 wr) (fun iv _ => T.args.length - (intOf iv).toNat)
          case atStart => exact ⟨0, [], Nat.zero_le _, rfl, rfl, HJ2.out, KF.refl _ _⟩
          case round =>
            obtain ⟨i, ys, hi, rfl, hys, hJ3, hk3⟩ := hrel
            rename World => wr
            have HYS := Lib.hid hys
            have HJ3 := Lib.hid hJ3
            have K3 := Lib.hid hk3
            clear hys hJ3 hk3 HJ2 c0 c6
            by_cases hlt : i < T.args.length
            · obtain ⟨b, o, hadr, e0, e1, e2, e3, e4, e5, e6⟩ := (HT2.out.kf K3.out HG2.out).at_ hlt
              have ct : wr.cell? ⟨tb, 0, none⟩ = some (tellV tb) := K3.out.cell HG2.out HF2.out HC2.out
              have hg3 := (K3.out HG2.out).1
              have hf3 := K3.out.fo HG2.out HF2.out
              have ctl : tb < wr.heap.size := World.block_lt_of_cell? wr _ ct
              have hsn := plL_snoc true T.args i hlt
              have HSN := Lib.hid hsn
              have hln : (pre ++ x :: ys).length + (pl true T.args[i]).length ≤ N := by
                have h1 := HN.out
                have h2 := plL_len true T.args (i + 1)
                have h3 := congrArg List.length hsn
                have h4 := congrArg List.length HYS.out
                rw [List.length_append] at h3
                rw [firsts_len] at h4
                rw [List.length_append, List.length_cons]
                omega
              have IC := Lib.hid (fun ob => IH.out T.args[i] true (pre ++ x :: ys) (wr.alloc ob) (Nat.le_trans (ht_mem (List.getElem_mem hlt)) HF.out) (HKO.out _ (List.getElem_mem hlt)) (((HT2.out.kf K3.out HG2.out).sub _ (List.getElem_mem hlt)).kf (KF.alloc _ ob) hg3) ((KF.alloc _ ob) hg3).1 ((KF.alloc _ ob).fo hg3 hf3) ((KF.alloc _ ob).cell hg3 hf3 ct) (hAl _ _ ob HJ3.out) hln)
              rw [hadr]
              unfold RV.val at IC
              unfold tellV at ct
              have i0 : (0 : Int) ≤ (i : Int) := by omega
              have i1 : (i : Int) < (T.args.length : Int) := by omega
              clear hsn hln hadr IH HJ3 hg3 hf3
              generalize T.args[i] = y at *
              gi_wp2
              refine ⟨trivial, fun h => absurd h (by decide), ?_⟩
              gi_at_call 143
              refine (IC.out _).mono ?_
              rintro e W4 (⟨rfl, ⟨zs, hzs, hJ4⟩, hk4⟩ | ⟨rfl, q, hq, hJx⟩)
              · have HZ := Lib.hid hzs
                have HJ4 := Lib.hid hJ4
                have K4 := Lib.hid ((K3.out.trans (KF.alloc _ _)).trans hk4)
                clear hzs hJ4 hk4 IC e0 e1 e2 e3 e4 e5 e6 ct ctl
                gi_wp2
                go_roundw
                case rel => exact ⟨i + 1, ys ++ zs, by omega, by go_num, by rw [firsts_app, HYS.out, HZ.out, HSN.out], by have := HJ4.out; simpa using this, K4.out⟩
                case measure => simp [intOf]; omega
              · have HQ := Lib.hid hq
                have HJX := Lib.hid hJx
                clear hq hJx IC e0 e1 e2 e3 e4 e5 e6 ct ctl
                gi_wp2
                go_ret
                refine .inr ⟨rfl, x :: ys ++ q, ?_, by have := HJX.out; simpa using this⟩
                obtain ⟨t, ht⟩ := HQ.out
                have h5 := plL_app true (T.args.take (i + 1)) (T.args.drop (i + 1))
                rw [List.take_append_drop, HSN.out, ← HYS.out, ← ht] at h5
                refine ⟨t ++ plL true (T.args.drop (i + 1)), ?_⟩
                rw [PE.out, h5]
                simp [firsts, HX.out]
            · obtain rfl : i = T.args.length := by omega
              clear IH
              gi_wp2
              go_ret
              refine .inl ⟨rfl, ⟨x :: ys, ?_, HJ3.out⟩, K2.out.trans K3.out⟩
              have h6 := HYS.out
              rw [List.take_of_length_le (Nat.le_refl _)] at h6
              rw [PE.out, ← h6]
              simp [firsts, HX.out]
        · rw [show alone false T.kind = false by unfold alone; rw [k6b, show (T.kind == 7) = false by simpa using k7]; rfl] at HN PE
          have k7b : (T.kind == 7) = false := by simpa using k7
          clear k6 k7
          gi_wp2
          gi_loopw [29] (fun iv wr => ∃ (i : Nat) (ys : List PtX), i ≤ T.args.length ∧ iv = .int .i64 (i : Int) ∧ firsts ys = plL false (T.args.take i) ∧ J (pre ++ x :: ys) wr ∧ KF R W2 wr) (fun iv _ => T.args.length - (intOf iv).toNat)
          case atStart => exact ⟨0, [], Nat.zero_le _, rfl, rfl, HJ2.out, KF.refl _ _⟩
          case round =>
            obtain ⟨i, ys, hi, rfl, hys, hJ3, hk3⟩ := hrel
            rename World => wr
            have HYS := Lib.hid hys
            have HJ3 := Lib.hid hJ3
            have K3 := Lib.hid hk3
            clear hys hJ3 hk3 HJ2 c0 c6
            by_cases hlt : i < T.args.length
            · obtain ⟨b, o, hadr, e0, e1, e2, e3, e4, e5, e6⟩ := (HT2.out.kf K3.out HG2.out).at_ hlt
              have ct : wr.cell? ⟨tb, 0, none⟩ = some (tellV tb) := K3.out.cell HG2.out HF2.out HC2.out
              have hg3 := (K3.out HG2.out).1
              have hf3 := K3.out.fo HG2.out HF2.out
              have ctl : tb < wr.heap.size := World.block_lt_of_cell? wr _ ct
              have hsn := plL_snoc false T.args i hlt
              have HSN := Lib.hid hsn
              have hln : (pre ++ x :: ys).length + (pl false T.args[i]).length ≤ N := by
                have h1 := HN.out
                have h2 := plL_len false T.args (i + 1)
                have h3 := congrArg List.length hsn
                have h4 := congrArg List.length HYS.out
                rw [List.length_append] at h3
                rw [firsts_len] at h4
                rw [List.length_append, List.length_cons]
                omega
              have IC := Lib.hid (fun ob => IH.out T.args[i] false (pre ++ x :: ys) (wr.alloc ob) (Nat.le_trans (ht_mem (List.getElem_mem hlt)) HF.out) (HKO.out _ (List.getElem_mem hlt)) (((HT2.out.kf K3.out HG2.out).sub _ (List.getElem_mem hlt)).kf (KF.alloc _ ob) hg3) ((KF.alloc _ ob) hg3).1 ((KF.alloc _ ob).fo hg3 hf3) ((KF.alloc _ ob).cell hg3 hf3 ct) (hAl _ _ ob HJ3.out) hln)
              rw [hadr]
              unfold RV.val at IC
              unfold tellV at ct
              have i0 : (0 : Int) ≤ (i : Int) := by omega
              have i1 : (i : Int) < (T.args.length : Int) := by omega
              clear hsn hln hadr IH HJ3 hg3 hf3
              generalize T.args[i] = y at *
              gi_wp2
              refine ⟨trivial, fun h => absurd h (by decide), ?_⟩
              gi_at_call 143
              refine (IC.out _).mono ?_
              rintro e W4 (⟨rfl, ⟨zs, hzs, hJ4⟩, hk4⟩ | ⟨rfl, q, hq, hJx⟩)
              · have HZ := Lib.hid hzs
                have HJ4 := Lib.hid hJ4
                have K4 := Lib.hid ((K3.out.trans (KF.alloc _ _)).trans hk4)
                clear hzs hJ4 hk4 IC e0 e1 e2 e3 e4 e5 e6 ct ctl
                gi_wp2
                go_roundw
                case rel => exact ⟨i + 1, ys ++ zs, by omega, by go_num, by rw [firsts_app, HYS.out, HZ.out, HSN.out], by have := HJ4.out; simpa using this, K4.out⟩
                case measure => simp [intOf]; omega
              · have HQ := Lib.hid hq
                have HJX := Lib.hid hJx
                clear hq hJx IC e0 e1 e2 e3 e4 e5 e6 ct ctl
                gi_wp2
                go_ret
                refine .inr ⟨rfl, x :: ys ++ q, ?_, by have := HJX.out; simpa using this⟩
                obtain ⟨t, ht⟩ := HQ.out
                have h5 := plL_app false (T.args.take (i + 1)) (T.args.drop (i + 1))
                rw [List.take_append_drop, HSN.out, ← HYS.out, ← ht] at h5
                refine ⟨t ++ plL false (T.args.drop (i + 1)), ?_⟩
                rw [PE.out, h5]
                simp [firsts, HX.out]
            · obtain rfl : i = T.args.length := by omega
              clear IH
              gi_wp2
              go_ret
              refine .inl ⟨rfl, ⟨x :: ys, ?_, HJ3.out⟩, K2.out.trans K3.out⟩
              have h6 := HYS.out
              rw [List.take_of_length_le (Nat.le_refl _)] at h6
              rw [PE.out, ← h6]
              simp [firsts, HX.out]
    · rw [show alone true T.kind = true from rfl] at HN PE
      gi_wp2
      gi_loopw [29] (fun iv wr => ∃ (i : Nat) (ys : List PtX), i ≤ T.args.length ∧ iv = .int .i64 (i : Int) ∧ firsts ys = plL true (T.args.take i) ∧ J (pre ++ x :: ys) wr ∧ KF R W2 wr) (fun iv _ => T.args.length - (intOf iv).toNat)
      case atStart => exact ⟨0, [], Nat.zero_le _, rfl, rfl, HJ2.out, KF.refl _ _⟩
      case round =>
        obtain ⟨i, ys, hi, rfl, hys, hJ3, hk3⟩ := hrel
        rename World => wr
        have HYS := Lib.hid hys
        have HJ3 := Lib.hid hJ3
        have K3 := Lib.hid hk3
        clear hys hJ3 hk3 HJ2 c0 c6
        by_cases hlt : i < T.args.length
        · obtain ⟨b, o, hadr, e0, e1, e2, e3, e4, e5, e6⟩ := (HT2.out.kf K3.out HG2.out).at_ hlt
          have ct : wr.cell? ⟨tb, 0, none⟩ = some (tellV tb) := K3.out.cell HG2.out HF2.out HC2.out
          have hg3 := (K3.out HG2.out).1
          have hf3 := K3.out.fo HG2.out HF2.out
          have ctl : tb < wr.heap.size := World.block_lt_of_cell? wr _ ct
          have hsn := plL_snoc true T.args i hlt
          have HSN := Lib.hid hsn
          have hln : (pre ++ x :: ys).length + (pl true T.args[i]).length ≤ N := by
            have h1 := HN.out
            have h2 := plL_len true T.args (i + 1)
            have h3 := congrArg List.length hsn
            have h4 := congrArg List.length HYS.out
            rw [List.length_append] at h3
            rw [firsts_len] at h4
            rw [List.length_append, List.length_cons]
            omega
          have IC := Lib.hid (fun ob => IH.out T.args[i] true (pre ++ x :: ys) (wr.alloc ob) (Nat.le_trans (ht_mem (List.getElem_mem hlt)) HF.out) (HKO.out _ (List.getElem_mem hlt)) (((HT2.out.kf K3.out HG2.out).sub _ (List.getElem_mem hlt)).kf (KF.alloc _ ob) hg3) ((KF.alloc _ ob) hg3).1 ((KF.alloc _ ob).fo hg3 hf3) ((KF.alloc _ ob).cell hg3 hf3 ct) (hAl _ _ ob HJ3.out) hln)
          rw [hadr]
          unfold RV.val at IC
          unfold tellV at ct
          have i0 : (0 : Int) ≤ (i : Int) := by omega
          have i1 : (i : Int) < (T.args.length : Int) := by omega
          clear hsn hln hadr IH HJ3 hg3 hf3
          generalize T.args[i] = y at *
          gi_wp2
          refine ⟨trivial, fun h => absurd h (by decide), ?_⟩
          gi_at_call 143
          refine (IC.out _).mono ?_
          rintro e W4 (⟨rfl, ⟨zs, hzs, hJ4⟩, hk4⟩ | ⟨rfl, q, hq, hJx⟩)
          · have HZ := Lib.hid hzs
            have HJ4 := Lib.hid hJ4
            have K4 := Lib.hid ((K3.out.trans (KF.alloc _ _)).trans hk4)
            clear hzs hJ4 hk4 IC e0 e1 e2 e3 e4 e5 e6 ct ctl
            gi_wp2
            go_roundw
            case rel => exact ⟨i + 1, ys ++ zs, by omega, by go_num, by rw [firsts_app, HYS.out, HZ.out, HSN.out], by have := HJ4.out; simpa using this, K4.out⟩
            case measure => simp [intOf]; omega
          · have HQ := Lib.hid hq
            have HJX := Lib.hid hJx
            clear hq hJx IC e0 e1 e2 e3 e4 e5 e6 ct ctl
            gi_wp2
            go_ret
            refine .inr ⟨rfl, x :: ys ++ q, ?_, by have := HJX.out; simpa using this⟩
            obtain ⟨t, ht⟩ := HQ.out
            have h5 := plL_app true (T.args.take (i + 1)) (T.args.drop (i + 1))
            rw [List.take_append_drop, HSN.out, ← HYS.out, ← ht] at h5
            refine ⟨t ++ plL true (T.args.drop (i + 1)), ?_⟩
            rw [PE.out, h5]
            simp [firsts, HX.out]
        · obtain rfl : i = T.args.length := by omega
          clear IH
          gi_wp2
          go_ret
          refine .inl ⟨rfl, ⟨x :: ys, ?_, HJ3.out⟩, K2.out.trans K3.out⟩
          have h6 := HYS.out
          rw [List.take_of_length_le (Nat.le_refl _)] at h6
          rw [PE.out, ← h6]
          simp [firsts, HX.out]
set_option maxRecDepth 100000 in
set_option maxHeartbeats 16000000 in
theorem shpartsf2_in (l R rb tb n : Nat) (T : RV) (J Jx : List PtX → World → Prop) (hAl : ∀ pre W o, J pre W → J pre (W.alloc o))
    (hY : ∀ pre (x : PtX) W, J pre W → pre.length < (pl false T).length → YieldAt Fence.wide (n - 1) Tryz.prog l (pxArgs x) W fun e W' => (e = .returned (.bool true) ∧ J (pre ++ [x]) W' ∧ KF R W W') ∨ (e = .returned (.bool false) ∧ Jx (pre ++ [x]) W'))
    (W : World) (hKO : KO T) (hP : PartsAt T rb tb W) (hT : TF R W T) (hG : GD R W) (hF : Fo R tb W) (h0 : J [] W) :
    CallsIn Fence.wide n Tryz.prog 144 #[.func (.yield l) #[] #[], .pointer (some ⟨tb, 0, none⟩), .pointer (some ⟨rb, 0, none⟩)] W fun e W' => (∃ v, e = .returned v) ∧
      ((∃ ys, firsts ys = pl false T ∧ J ys W') ∨ (∃ pre, firsts pre <+: pl false T ∧ Jx pre W')) := by
  have hp := Lib.hid (tellf_in l R tb (pl false T).length J Jx hAl (fun m pre x W hj hl => yield_any rfl m (hY pre x W hj hl)) T.ht T false (n - 1) [] W (Nat.le_refl _) hKO hT hG hF hP.2.1 h0 (by simp))
  obtain ⟨⟨⟨c0, c1, c2, c3, c4, c5, c6⟩, _, hl⟩, ct, ctl⟩ := hP
  unfold tellV at ct
  unfold RV.val at hp
  clear hT h0 hY hG hF
  refine callsIn_of_wp Tryz.func144 rfl trivial ?_ rfl
  simp only [Tryz.ntmps144, List.size_toArray, List.length_cons, List.length_nil, Nat.reduceAdd, Nat.reduceSub, Array.replicate_succ, Array.replicate_zero, List.push_toArray, List.append_toArray, List.nil_append, List.cons_append]
  gi_wp2
  refine ⟨trivial, fun h => absurd h (by decide), ?_⟩
  gi_at_call 143
  refine hp.out.mono ?_
  rintro e W4 (⟨rfl, ⟨zs, hzs, hJ4⟩, _⟩ | ⟨rfl, q, hq, hJx⟩)
  · have HZ := Lib.hid hzs
    have HJ := Lib.hid hJ4
    clear hzs hJ4 hp
    gi_wp2
    go_end0
    exact ⟨⟨_, rfl⟩, .inl ⟨_, HZ.out, by simpa using HJ.out⟩⟩
  · have HQ := Lib.hid hq
    have HJ := Lib.hid hJx
    clear hq hJx hp
    gi_wp2
    go_end0
    exact ⟨⟨_, rfl⟩, .inr ⟨q, HQ.out, by simpa using HJ.out⟩⟩
theorem shpartsf_stops (n R rb tb : Nat) (T : RV) (w : World) (hKO : KO T) (hP : PartsAt T rb tb w) (hT : TF R w T) (hG : GD R w) (hF : Fo R tb w) :
    SeqStopsK Fence.wide n Tryz.prog 144 #[.pointer (some ⟨tb, 0, none⟩), .pointer (some ⟨rb, 0, none⟩)] pxArgs (KF R) (fun ys => firsts ys = pl false T) (fun pre => firsts pre <+: pl false T) (pl false T).length w :=
  fun l J Jx W hW hA _ hY h0 => shpartsf2_in l R rb tb n T J Jx (fun pre W' o hj => hA pre W' _ none hj (World.grownBy_alloc W' o none) (fun _ h => by cases h)) hY W hKO (hP.then hW) (hT.kf (KF.of hW) hG) ((KF.of hW) hG).1 ((KF.of hW).fo hG hF) h0
end Go.Proofs.YteobmfpbgnmffaaGreatDoor

/- TrProvP, ShAtoms, R14P, TrProvL -/
set_option linter.unusedSimpArgs false
set_option linter.unusedVariables false
namespace Go.Proofs.YteobmfpbgnmffaaGreatDoor
section
/- Plain law: TruthProviders: of a state those packages matter alone that provide an Atom that stands in it. -/



open Go.RowKit Go.Shelf
set_option linter.unusedVariables false

mutual
def atomsT : RT → List Dp | .mk k d l => (if k = 1 then [d] else []) ++ atomsTL l
def atomsTL : List RT → List Dp | [] => [] | t :: l => atomsT t ++ atomsTL l
end
namespace Tr
section
variable {N : Nat} {pv : Nat → Dp → Bool} {wh : Int} {n : Nat}
theorem all_get0 {v : List Bool} (h : v.all id = true) (hl : 0 < v.length) : v.getD 0 false = true := by
  cases v with
  | nil => cases hl
  | cons a v => simp only [List.all_cons, id, Bool.and_eq_true] at h; exact h.1
theorem any_get : ∀ {v : List Bool}, v.any id = true → ∃ i, i < v.length ∧ v.getD i false = true
  | [], h => by cases h
  | a :: v, h => by
    simp only [List.any_cons, id, Bool.or_eq_true] at h
    rcases h with h | h
    · exact ⟨0, by simp, h⟩
    · obtain ⟨i, hi, e⟩ := any_get h
      exact ⟨i + 1, by simpa using hi, by simpa using e⟩
theorem okP_kind {k : Int} {m : Nat} {d : Dp} {al : Bool} (hw : 1 ≤ wh) (h : okP wh k m d al = true) : (k = 1 ∨ k = 2 ∨ k = 3 ∨ k = 4 ∨ k = 5 ∨ k = 6 ∨ k = 7) ∧ (k ≠ 1 → 2 ≤ m) ∧ (al = true → k ≠ 4 ∧ k ≠ 5) := by
  unfold okP at h
  simp only [Bool.and_eq_true, decide_eq_true_eq, Bool.not_eq_true'] at h
  obtain ⟨h1, h2, h3, h4, _⟩ := h
  have hk : k = 1 ∨ k = 2 ∨ k = 3 ∨ k = 4 ∨ k = 5 ∨ k = 6 ∨ k = 7 := by
    refine Classical.byContradiction fun hn => ?_
    have : (askOf k).wh = 0 := by unfold askOf; rw [if_neg (by omega), if_neg (by omega), if_neg (by omega), if_neg (by omega), if_neg (by omega)]
    omega
  refine ⟨hk, fun h1 => ?_, fun hal => ?_⟩
  · have : (askOf k).least = 2 := by
      rcases hk with rfl | rfl | rfl | rfl | rfl | rfl | rfl
      · exact absurd rfl h1
      all_goals rfl
    omega
  · subst hal
    refine ⟨fun e => ?_, fun e => ?_⟩ <;> subst e <;> cases h2
mutual
theorem one_prov (hw : 1 ≤ wh) (hn : n < N) : ∀ t : RT, okF wh true t = true → sat N pv t (one n) = true → ∃ d ∈ atomsT t, pv n d = true
  | .mk k d l, ho, hs => by
    rw [okF, Bool.and_eq_true] at ho
    obtain ⟨hk, hm, ha⟩ := okP_kind hw ho.1
    have hl := one_provL hw hn l ho.2
    rw [sat] at hs
    have key : (∃ i, i < (satL N pv l (one n)).length ∧ (satL N pv l (one n)).getD i false = true) → ∃ d' ∈ atomsT (.mk k d l), pv n d' = true := by
      rintro ⟨i, hi, e⟩
      obtain ⟨d', h1, h2⟩ := hl i e
      exact ⟨d', by rw [atomsT]; exact List.mem_append_right _ h1, h2⟩
    have h4 := (ha rfl).1
    have h5 := (ha rfl).2
    rcases hk with rfl | rfl | rfl | rfl | rfl | rfl | rfl
    · have hs : anyN N (fun m => one n m && pv m d) = true := hs
      rw [anyN_one (p := fun m => pv m d) hn] at hs
      exact ⟨d, by rw [atomsT, if_pos rfl]; simp, hs⟩
    · exact key ⟨0, by rw [satL_len]; have := hm (by decide); omega, all_get0 hs (by rw [satL_len]; have := hm (by decide); omega)⟩
    · exact key (any_get hs)
    · exact absurd rfl h4
    · exact absurd rfl h5
    · have hs : anyN N (fun m => one n m && (satL N pv l (one m)).all id) = true := hs
      rw [anyN_one (p := fun m => (satL N pv l (one m)).all id) hn] at hs
      exact key ⟨0, by rw [satL_len]; have := hm (by decide); omega, all_get0 hs (by rw [satL_len]; have := hm (by decide); omega)⟩
    · have hs : anyN N (fun m => one n m && ((satL N pv l (one m)).getD 0 false && !(satL N pv l (one m)).getD 1 false)) = true := hs
      rw [anyN_one (p := fun m => (satL N pv l (one m)).getD 0 false && !(satL N pv l (one m)).getD 1 false) hn, Bool.and_eq_true] at hs
      exact key ⟨0, by rw [satL_len]; have := hm (by decide); omega, hs.1⟩
theorem one_provL (hw : 1 ≤ wh) (hn : n < N) : ∀ l : List RT, okFL wh true l = true → ∀ i, (satL N pv l (one n)).getD i false = true → ∃ d ∈ atomsTL l, pv n d = true
  | [], _, i, h => by rw [satL] at h; simp at h
  | t :: l, ho, i, h => by
    rw [okFL, Bool.and_eq_true] at ho
    rw [satL] at h
    cases i with
    | zero =>
      obtain ⟨d, h1, h2⟩ := one_prov hw hn t ho.1 (by simpa using h)
      exact ⟨d, by rw [atomsTL]; exact List.mem_append_left _ h1, h2⟩
    | succ i =>
      obtain ⟨d, h1, h2⟩ := one_provL hw hn l ho.2 i (by simpa using h)
      exact ⟨d, by rw [atomsTL]; exact List.mem_append_right _ h1, h2⟩
end
theorem and_same {a p q : Bool} (h : q = true → p = true) : (a && q) = ((a && p) && q) := by
  cases q
  · simp
  · rw [h rfl]; simp
mutual
theorem sat_sift (hw : 1 ≤ wh) {aL : List Dp} {inn inn' : Nat → Bool} (hin : ∀ m, m < N → inn' m = (inn m && aL.any (pv m))) : ∀ (t : RT) (al : Bool), okF wh al t = true → (∀ d ∈ atomsT t, d ∈ aL) → sat N pv t inn = sat N pv t inn'
  | .mk k d l, al, ho, hs => by
    rw [okF, Bool.and_eq_true] at ho
    obtain ⟨hk, hm, _⟩ := okP_kind hw ho.1
    have hsl : ∀ d' ∈ atomsTL l, d' ∈ aL := fun d' h => hs d' (by rw [atomsT]; exact List.mem_append_right _ h)
    have hv := satL_sift hw hin l (alone al k) ho.2 hsl
    have anyp : ∀ m, (∃ d' ∈ atomsTL l, pv m d' = true) → aL.any (pv m) = true := fun m ⟨d', h1, h2⟩ => List.any_eq_true.2 ⟨d', hsl d' h1, h2⟩
    rw [sat, sat]
    rcases hk with rfl | rfl | rfl | rfl | rfl | rfl | rfl
    · show anyN N (fun m => inn m && pv m d) = anyN N (fun m => inn' m && pv m d)
      refine anyN_congr fun m hm => ?_
      rw [hin m hm]
      exact and_same fun h => List.any_eq_true.2 ⟨d, hs d (by rw [atomsT, if_pos rfl]; simp), h⟩
    · show (satL N pv l inn).all id = (satL N pv l inn').all id
      rw [hv]
    · show (satL N pv l inn).any id = (satL N pv l inn').any id
      rw [hv]
    · show (if (satL N pv l inn).getD 1 false then (satL N pv l inn).getD 0 false else (decide ((satL N pv l inn).length < 3) || (satL N pv l inn).getD 2 false)) = (if (satL N pv l inn').getD 1 false then (satL N pv l inn').getD 0 false else (decide ((satL N pv l inn').length < 3) || (satL N pv l inn').getD 2 false))
      rw [hv]
    · show (if (satL N pv l inn).getD 1 false then (decide ((satL N pv l inn).length = 3) && (satL N pv l inn).getD 2 false) else (satL N pv l inn).getD 0 false) = (if (satL N pv l inn').getD 1 false then (decide ((satL N pv l inn').length = 3) && (satL N pv l inn').getD 2 false) else (satL N pv l inn').getD 0 false)
      rw [hv]
    · show anyN N (fun m => inn m && (satL N pv l (one m)).all id) = anyN N (fun m => inn' m && (satL N pv l (one m)).all id)
      refine anyN_congr fun m hmN => ?_
      rw [hin m hmN]
      exact and_same fun h => anyp m (one_provL hw hmN l (by rw [show alone al 6 = true by unfold alone; cases al <;> rfl] at ho; exact ho.2) 0 (all_get0 h (by rw [satL_len]; have := hm (by decide); omega)))
    · show anyN N (fun m => inn m && ((satL N pv l (one m)).getD 0 false && !(satL N pv l (one m)).getD 1 false)) = anyN N (fun m => inn' m && ((satL N pv l (one m)).getD 0 false && !(satL N pv l (one m)).getD 1 false))
      refine anyN_congr fun m hmN => ?_
      rw [hin m hmN]
      exact and_same fun h => anyp m (one_provL hw hmN l (by rw [show alone al 7 = true by unfold alone; cases al <;> rfl] at ho; exact ho.2) 0 (by rw [Bool.and_eq_true] at h; exact h.1))
theorem satL_sift (hw : 1 ≤ wh) {aL : List Dp} {inn inn' : Nat → Bool} (hin : ∀ m, m < N → inn' m = (inn m && aL.any (pv m))) : ∀ (l : List RT) (al : Bool), okFL wh al l = true → (∀ d ∈ atomsTL l, d ∈ aL) → satL N pv l inn = satL N pv l inn'
  | [], _, _, _ => rfl
  | t :: l, al, ho, hs => by
    rw [okFL, Bool.and_eq_true] at ho
    rw [satL, satL, sat_sift hw hin t al ho.1 (fun d h => hs d (by rw [atomsTL]; exact List.mem_append_left _ h)), satL_sift hw hin l al ho.2 (fun d h => hs d (by rw [atomsTL]; exact List.mem_append_right _ h))]
end
end
end Tr
end
section
/- Walk: the Deps of a rich dependency's Atoms (shape.Atoms). -/






open Go.RowKit Go.Shelf
set_option linter.unusedVariables false
attribute [local go_sem] Oper.semAt_some
attribute [local go_sem ↓ high] asked_wide

/-- of the parts told so far the Deps of the Atoms -/
def atD : List (RV × Bool) → List Dp | [] => [] | x :: l => (if x.1.kind = 1 then [x.1.dep] else []) ++ atD l
theorem atD_app : ∀ a b : List (RV × Bool), atD (a ++ b) = atD a ++ atD b
  | [], b => rfl
  | x :: a, b => by rw [List.cons_append, atD, atD, atD_app a b, List.append_assoc]
theorem atD_len : ∀ a : List (RV × Bool), (atD a).length ≤ a.length
  | [] => Nat.le_refl _
  | x :: a => by
    rw [atD, List.length_append, List.length_cons]
    have := atD_len a
    by_cases h : x.1.kind = 1
    · rw [if_pos h]; simp; omega
    · rw [if_neg h]; simp; omega
mutual
theorem plA_atoms (al : Bool) : ∀ T : RV, atD (pl al T) = atomsT T.tree
  | .node k d A c l => by
    rw [pl, atD, plLA_atoms (alone al k) l, RV.tree, atomsT]
    rfl
theorem plLA_atoms (al : Bool) : ∀ l : List RV, atD (plL al l) = atomsTL (treeL l)
  | [] => rfl
  | a :: l => by rw [plL, atD_app, plA_atoms al a, plLA_atoms al l, treeL, atomsTL]
end
/-- the Deps that are put down so far -/
structure OutD (base ob : Nat) (D : List Dp) (W : World) : Prop where
  row : ∃ v, W.cell? ⟨ob, 0, none⟩ = some v ∧ Own encD 5 base 37 v D W
  fz : W.frozen? ⟨ob, 0, none⟩ = false
  hz : ob < base ∧ base ≤ W.heap.size
theorem OutD.then {base ob : Nat} {D : List Dp} {W W' : World} (h : OutD base ob D W) (hb : Below W.heap.size W W') : OutD base ob D W' := by
  obtain ⟨v, h1, h2⟩ := h.row
  have hl := World.block_lt_of_cell? W _ h1
  exact ⟨⟨v, (hb.cell hl).trans h1, h2.below hb (Nat.le_refl _)⟩, (hb.frozen hl).trans h.fz, h.hz.1, Nat.le_trans h.hz.2 hb.size⟩
theorem OutD.more {base ob : Nat} {D : List Dp} {W W1 : World} {x : Dp} {v v' : Value} (hz : ob < base ∧ base ≤ W.heap.size) (hf : W.frozen? ⟨ob, 0, none⟩ = false) (hc : W.cell? ⟨ob, 0, none⟩ = some v) (ho : Own encD 5 base 37 v D W) (hg : W.grownBy W1 v.ownBlock) (hat : v'.ownBlock = v.ownBlock ∨ v'.ownBlock = some W.heap.size) (ho' : Own encD 5 base 37 v' (D ++ [x]) W1) :
    (W1.cell? ⟨ob, 0, none⟩ = some v ∧ W1.frozen? ⟨ob, 0, none⟩ = false) ∧ OutD base ob (D ++ [x]) (W1.setCell ⟨ob, 0, none⟩ v') ∧ KF ob W (W1.setCell ⟨ob, 0, none⟩ v') ∧ KeepsOthers W (W1.setCell ⟨ob, 0, none⟩ v') ∧ Below ob W (W1.setCell ⟨ob, 0, none⟩ v') := by
  have hr : ∀ (u : Value) (E : List Dp) (U : World), Own encD 5 base 37 u E U → ∀ j, u.ownBlock = some j → base ≤ j ∧ j < U.heap.size := fun u E U h j e => World.ownsRow.lt h j e
  have hl := World.block_lt_of_cell? W _ hc
  have hb := hg.block ob hl (fun e => by have := hr _ _ _ ho _ e.symm; omega)
  have c1 : W1.cell? ⟨ob, 0, none⟩ = some v := (World.cell?_of_block hb).trans hc
  have f1 : W1.frozen? ⟨ob, 0, none⟩ = false := (World.frozen?_of_block hb).trans hf
  have hs := hg.size
  have hsz : (W1.setCell ⟨ob, 0, none⟩ v').heap.size = W1.heap.size := by simp [World.setCell]
  refine ⟨⟨c1, f1⟩, ⟨⟨v', sc_same c1, ?_⟩, (World.frozen?_setCell _ _ _ _).trans f1, hz.1, by omega⟩, ?_, ?_, ?_⟩
  · exact World.ownsRow.kept ho' (grownBy_setCell' W1 ob v') (.inr (fun e => by have := hr _ _ _ ho' _ e; omega))
  · intro _
    refine ⟨⟨v', sc_same c1, fun j e => by have := (hr _ _ _ ho' j e).2; omega⟩, by omega, fun b hbf => ⟨⟨by have := hbf.1; omega, hbf.2.1, fun u hu e => ?_⟩, fun i u hu => ?_⟩⟩
    · rw [sc_same c1] at hu
      cases hu
      rcases hat with h | h
      · exact hbf.2.2 v hc (h ▸ e)
      · rw [h] at e; cases e; exact Nat.lt_irrefl _ hbf.1
    · have hbk := hg.block b hbf.1 (fun e => hbf.2.2 v hc e.symm)
      exact (sc_other (fun e => by simp only [Addr.mk.injEq] at e; exact hbf.2.1 e.1.symm)).trans ((World.cell?_of_block hbk).trans hu)
  · refine (KeepsOthers.of_grownBy hg fun j o ej hj => ?_).trans (KeepsOthers.setCell _ _ _)
    rcases ho.2 with ⟨rfl, _⟩ | ⟨g, cap, cur, rfl, _, hgb, _⟩
    · simp [Value.ownBlock] at ej
    · obtain rfl : g = j := by simpa [Value.ownBlock] using ej
      rw [hgb] at hj; cases hj; rfl
  · exact (((Below.refl ob W).grown hg (by omega) (fun j e => by have := hr _ _ _ ho j e; omega)).setCell (p := ⟨ob, 0, none⟩) (Nat.le_refl _) _)
theorem OutD.own {base ob B : Nat} (f : List PtX → List Dp) : OwnFrom B (fun (s : List PtX) W => OutD base ob (f s) W) := fun s A C row hs hg hr => by
  obtain ⟨v, h1, h2⟩ := hs.row
  refine ⟨⟨v, cell_kept h1 hg fun r e => (hr r e).2, ?_⟩, (frozen_kept h1 hg fun r e => (hr r e).2).trans hs.fz, hs.hz.1, Nat.le_trans hs.hz.2 hg.size⟩
  refine World.ownsRow.kept h2 hg ?_
  cases e : v.ownBlock with
  | none => exact .inl rfl
  | some g =>
    right
    intro e2
    obtain ⟨_, o, ho, hc⟩ := hr g e2.symm
    rcases h2.2 with ⟨rfl, _⟩ | ⟨g2, cap, cur, rfl, _, hgb, _⟩
    · simp [Value.ownBlock] at e
    · obtain rfl : g2 = g := by simpa [Value.ownBlock] using e
      rw [hgb] at ho; cases ho; cases hc
theorem own_putD {α : Type} {enc : α → List Value} {size base : Nat} {e : TypeId} {v : Value} {D : List α} {W : World} (h2 : Own enc size base e v D W) {l : Nat} {o : Obj} (hl : W.heap[l]? = some o) (hc : o.isCells = false) (o' : Obj) : Own enc size base e v D (W.putObj l o') := by
  refine World.ownsRow.kept h2 (grownBy_putObj' W l o') ?_
  cases e : v.ownBlock with
  | none => exact .inl rfl
  | some g =>
    right
    intro e2
    cases e2
    rcases h2.2 with ⟨rfl, _⟩ | ⟨g2, cap, cur, rfl, _, hgb, _⟩
    · simp [Value.ownBlock] at e
    · obtain rfl : g2 = l := by simpa [Value.ownBlock] using e
      rw [hgb] at hl; cases hl; cases hc
def AtI (w : World) (ob base : Nat) (pre : List PtX) (W : World) : Prop := OutD base ob (atD (firsts pre)) W ∧ Below w.heap.size w W
theorem xbox_ownA (B : Nat) (x : RV) (a' : Act) (f : Nat → Act) : OwnFrom B (fun (_ : Unit) W => ∃ b, a' = f b ∧ XBox x b W) := by
  rintro _ X Y row ⟨b, e, hb⟩ hg hrow
  refine ⟨b, e, (hg.block b (Array.getElem?_eq_some_iff.1 hb).1 (fun e2 => ?_)).trans hb⟩
  obtain ⟨_, o, ho, hc⟩ := hrow b e2.symm
  rw [show X.heap[b]? = _ from hb] at ho
  cases ho
  cases hc
theorem infoDepA : (Tryz.prog.info? 37).map (fun i => (i.zero, i.size, i.bytes)) = some (some (.agg #[.string ⟨#[]⟩, .int .u8 0, .int .i64 0, .string ⟨#[]⟩, .string ⟨#[]⟩]), 5, 64) := by kernel_rfl
set_option maxRecDepth 100000 in
set_option maxHeartbeats 16000000 in
theorem shatoms_any (T : RV) (w : World) (hKO : KO T) (hp : T.tree.parts ≤ 1000000) (hT : RTree w.heap.size w T) : Calls Tryz.prog 47 #[T.val] w fun e w' => ∃ A c, e = .returned (.slice A (atomsT T.tree).length c) ∧ Rd encD 5 w'.heap.size A c (atomsT T.tree) w' ∧ Below w.heap.size w w' := by
  have HKO := Lib.hid hKO
  have HT := Lib.hid hT
  have HP := Lib.hid hp
  obtain ⟨i0, hi, hz0, hz1, hz2⟩ := info_parts infoDepA
  have z1 : (w.alloc (.cells #[.int .u8 T.kind, .string (bs T.dep.name), .int .u8 T.dep.op, .int .i64 T.dep.evr.epoch, .string (bs T.dep.evr.ver), .string (bs T.dep.evr.rel), .slice T.addr T.args.length T.cap] 39)).heap.size = w.heap.size + 1 := by simp
  have b1 : Below w.heap.size w (w.alloc (.cells #[.int .u8 T.kind, .string (bs T.dep.name), .int .u8 T.dep.op, .int .i64 T.dep.evr.epoch, .string (bs T.dep.evr.ver), .string (bs T.dep.evr.rel), .slice T.addr T.args.length T.cap] 39)) := (Below.refl _ _).alloc (Nat.le_refl _) _
  obtain ⟨W2, hW2⟩ : ∃ W, W = (w.alloc (.cells #[.int .u8 T.kind, .string (bs T.dep.name), .int .u8 T.dep.op, .int .i64 T.dep.evr.epoch, .string (bs T.dep.evr.ver), .string (bs T.dep.evr.rel), .slice T.addr T.args.length T.cap] 39)).alloc (.cells #[.slice none 0 0] 24) := ⟨_, rfl⟩
  have z2 : W2.heap.size = w.heap.size + 2 := by rw [hW2]; simp
  have b2 : Below w.heap.size w W2 := by rw [hW2]; exact b1.alloc (by rw [z1]; omega) _
  have o2 : W2.cell? ⟨w.heap.size + 1, 0, none⟩ = some (.slice none 0 0) ∧ W2.frozen? ⟨w.heap.size + 1, 0, none⟩ = false := by rw [hW2, ← z1]; simp [go_sem]
  have l2 := shparts_any T W2
  rw [z2] at l2
  have LI := Lib.hid l2
  have O2 := Lib.hid o2
  have B2 := Lib.hid b2
  have c0 : W2.cell? ⟨w.heap.size, 0, none⟩ = some (.int .u8 T.kind) ∧ W2.cell? ⟨w.heap.size, 1, none⟩ = some (.string (bs T.dep.name)) ∧ W2.cell? ⟨w.heap.size, 2, none⟩ = some (.int .u8 T.dep.op) ∧ W2.cell? ⟨w.heap.size, 3, none⟩ = some (.int .i64 T.dep.evr.epoch) ∧ W2.cell? ⟨w.heap.size, 4, none⟩ = some (.string (bs T.dep.evr.ver)) ∧ W2.cell? ⟨w.heap.size, 5, none⟩ = some (.string (bs T.dep.evr.rel)) ∧ W2.cell? ⟨w.heap.size, 6, none⟩ = some (.slice T.addr T.args.length T.cap) := by rw [hW2]; refine ⟨?_, ?_, ?_, ?_, ?_, ?_, ?_⟩ <;> simp [go_sem]
  have CX := Lib.hid c0
  have EV := Lib.hid hW2
  have Z2 := Lib.hid z2
  clear hKO hT hp l2 o2 b1 b2 z1 z2 c0 hW2
  unfold RV.val
  unfold RV.val at LI
  refine (callsIn_wide (n := 8)).1 ?_
  refine callsIn_of_wp_marks Tryz.func47 rfl trivial ?_ rfl
  simp only [Tryz.ntmps47, List.size_toArray, List.length_cons, List.length_nil, Nat.reduceAdd, Nat.reduceSub, Array.replicate_succ, Array.replicate_zero, List.push_toArray, List.append_toArray, List.nil_append, List.cons_append]
  gi_wp2_with fail
  refine ⟨trivial, ?_⟩
  rw [← EV.out]
  clear EV
  gi_at_call 99
  refine (callsIn_wide.2 LI.out).mono ?_
  rintro e W3 ⟨rfl, hP, hb, hz⟩
  rw [← Z2.out] at hb
  have B3 := Lib.hid (B2.out.trans (hb.mono B2.out.size))
  have HPA := Lib.hid hP
  have h2 := Z2.out
  have ol : w.heap.size + 1 < W2.heap.size := by omega
  have O3 := Lib.hid (show W3.cell? ⟨w.heap.size + 1, 0, none⟩ = some (.slice none 0 0) ∧ W3.frozen? ⟨w.heap.size + 1, 0, none⟩ = false from ⟨(hb.cell (p := ⟨w.heap.size + 1, 0, none⟩) ol).trans O2.out.1, (hb.frozen (p := ⟨w.heap.size + 1, 0, none⟩) ol).trans O2.out.2⟩)
  have HZ := Lib.hid (show W3.heap.size = w.heap.size + 4 by omega)
  clear hP hb hz h2 ol O2 B2 LI CX Z2
  gi_wp2_with fail
  have zz := HZ.out
  have GD3 : GD (w.heap.size + 1) W3 := ⟨_, O3.out.1, fun j e => by simp [Value.ownBlock] at e⟩
  have FO3 : ∀ b, b < W3.heap.size → b ≠ w.heap.size + 1 → Fo (w.heap.size + 1) b W3 := fun b h1 h2 => ⟨h1, h2, fun v hv => by rw [O3.out.1] at hv; cases hv; simp [Value.ownBlock]⟩
  have TF3 : TF (w.heap.size + 1) W3 T := (rtree_tq HT.out).keep (fun b hq => FO3 b (by omega) (by omega)) fun b hq => B3.out.block b hq
  have T3 : OutD W3.heap.size (w.heap.size + 1) [] W3 := ⟨⟨_, O3.out.1, Own.nil_ _ _ _⟩, O3.out.2, by omega, Nat.le_refl _⟩
  generalize Value.agg #[.int .u8 T.kind, .string (bs T.dep.name), .int .u8 T.dep.op, .int .i64 T.dep.evr.epoch, .string (bs T.dep.evr.ver), .string (bs T.dep.evr.rel), .slice T.addr T.args.length T.cap] = vT at *
  refine wpIn_rangeFunc_ownA rfl (by decide) (gf := 144) (lb := #[.pointer (some ⟨w.heap.size + 2 + 1, 0, none⟩), .pointer (some ⟨w.heap.size + 2, 0, none⟩)]) rfl trivial (enters_of Tryz.func144 (by kernel_rfl) rfl)
    (shpartsf_stops 7 (w.heap.size + 1) (w.heap.size + 2) (w.heap.size + 2 + 1) T W3 HKO.out HPA.out TF3 GD3 (FO3 _ (by omega) (by omega))) kf_t (fun W l o o' _ h hc _ => kf_b W l o o' h hc) (Below.refl _ _) (fun _ => rfl)
    (AtI w (w.heap.size + 1) W3.heap.size) (fun _ _ _ => False) (OwnFrom.and (OutD.own _) (ownFrom_below (Nat.le_refl _) B3.out.size)) (fun _ _ _ _ _ h _ _ => h) ⟨T3, B3.out⟩
    (fun a x b => { tmps := ((a.tmps.setIfInBounds 4 (.pointer (some ⟨b, 0, none⟩))).setIfInBounds 7 x.1.1.val).setIfInBounds 8 (.bool x.1.2), defers := [] }) (fun x b W => XBox x.1.1 b W) (fun x a' => xbox_ownA _ _ a' _) ?assign ?body ?done ?stop
  case assign =>
    rintro l pre x W K ⟨h1, h2⟩ hK
    unfold pxArgs RV.val
    gi_wp2
    refine hK _ _ ((KeepsOthers.alloc _ _).from _) (KF.alloc _ _) ⟨h1.then ((Below.refl _ _).alloc (Nat.le_refl _) _), h2.trans (((Below.refl _ _).alloc (Nat.le_refl _) _).mono h2.size)⟩ ⟨W.heap.size, ?_, World.alloc_heap_new _ _⟩
    rfl
  case body =>
    rintro l pre x b W hl0 ⟨h1, h2⟩ hX hlt
    obtain ⟨y, hy⟩ : ∃ y, x.1.1 = y := ⟨_, rfl⟩
    have hat : atD (firsts (pre ++ [x])) = atD (firsts pre) ++ (if y.kind = 1 then [y.dep] else []) := by rw [firsts_app, atD_app, ← hy]; simp [firsts, atD]
    have hlen : (atD (firsts pre)).length ≤ 1000000 := by have q := atD_len (firsts pre); rw [firsts_len] at q; have := HP.out; rw [pl_len] at hlt; omega
    rw [hy] at hX ⊢
    have HAT := Lib.hid hat
    have OD := Lib.hid h1
    have BW := Lib.hid h2
    have XB := Lib.hid hX
    obtain ⟨DL, hDL⟩ : ∃ D, D = atD (firsts pre) := ⟨_, rfl⟩
    rw [← hDL] at hlen
    have HDL := Lib.hid hDL
    have hbl : b < W.heap.size := (Array.getElem?_eq_some_iff.1 hX).1
    obtain ⟨c0, c1, c2, c3, c4, c5, c6⟩ := hX.cells
    obtain ⟨v0, hv0, ho0⟩ := h1.row
    have hf0 := h1.fz
    rw [← hDL] at ho0
    have V0 := Lib.hid hv0
    have OV := Lib.hid ho0
    have C16 := Lib.hid (show _ ∧ _ ∧ _ ∧ _ ∧ _ from ⟨c1, c2, c3, c4, c5⟩)
    clear h1 h2 hX hlt hat hDL hv0 ho0 T3 TF3 FO3 GD3
    simp only [List.setIfInBounds_toArray, List.set_cons_zero, List.set_cons_succ]
    by_cases hk : y.kind = 1
    · have hkk := HAT.out
      rw [if_pos hk, ← HDL.out] at hkk
      have HKK := Lib.hid hkk
      rw [hk] at c0
      have hv0 := V0.out
      clear hkk HAT
      gi_wp2_with (gi_at_builtin; refine Hid.out ?_)
      refine Lib.hid ?_
      obtain ⟨V, hV⟩ : ∃ V, V = W.alloc (.cells #[.string (bs y.dep.name), .int .u8 y.dep.op, .int .i64 y.dep.evr.epoch, .string (bs y.dep.evr.ver), .string (bs y.dep.evr.rel)] 37) := ⟨_, rfl⟩
      rw [← hV]
      have bV : Below W.heap.size W V := by rw [hV]; exact (Below.refl _ _).alloc (Nat.le_refl _) _
      have x0 : ∀ j u, ([.string (bs y.dep.name), .int .u8 y.dep.op, .int .i64 y.dep.evr.epoch, .string (bs y.dep.evr.ver), .string (bs y.dep.evr.rel)] : List Value)[j]? = some u → V.cell? ((⟨W.heap.size, 0, none⟩ : Addr).add j) = some u := by
        intro j u hu
        rw [hV]
        match j, hu with
        | 0, hu => cases hu; simp [go_sem, Addr.add]
        | 1, hu => cases hu; simp [go_sem, Addr.add]
        | 2, hu => cases hu; simp [go_sem, Addr.add]
        | 3, hu => cases hu; simp [go_sem, Addr.add]
        | 4, hu => cases hu; simp [go_sem, Addr.add]
        | (j + 5), hu => cases hu
      have V1 := Lib.hid ((bV.cell (p := ⟨w.heap.size + 1, 0, none⟩) (World.block_lt_of_cell? W _ hv0)).trans hv0)
      have OV1 := Lib.hid (Own.below OV.out bV (Nat.le_refl _))
      have OD1 := Lib.hid (OD.out.then bV)
      have BV := Lib.hid bV
      refine wpListIn_append_own_at _ rfl _ _ 24 rfl W3.heap.size 37 i0 (.agg #[.string ⟨#[]⟩, .int .u8 0, .int .i64 0, .string ⟨#[]⟩, .string ⟨#[]⟩]) 5 64 Tryz.underlying24 hi hz0 hz1 hz2 rfl (by decide) _ _ _ rfl OV1.out ⟨W.heap.size, 0, none⟩ 1 1 [.string (bs y.dep.name), .int .u8 y.dep.op, .int .i64 y.dep.evr.epoch, .string (bs y.dep.evr.ver), .string (bs y.dep.evr.rel)] rfl rfl x0 ?c2 ?c3 ?c4 ?c5 ?c6
      case c2 => simp [Value.oneCell']
      case c3 => unfold maxLen; omega
      case c4 => omega
      case c5 => exact OD1.out.hz.2
      case c6 =>
        intro v' w6 ho6 hg6 _ hat6
        obtain ⟨A9, c9, rfl⟩ := own_shape ho6
        obtain ⟨⟨q1, q2⟩, q3, q4, q5, q6⟩ := OutD.more (x := y.dep) OD1.out.hz OD1.out.fz V1.out OV1.out hg6 hat6 (Own.snoc ho6)
        have Q3 := Lib.hid q3
        have Q4 := Lib.hid q4
        have Q5 := Lib.hid q5
        have Q6 := Lib.hid q6
        clear q3 q4 q5 q6 x0 bV hV
        gi_wp2_with fail
        have hbo := BW.out.trans (BV.out.mono BW.out.size)
        exact ⟨((KeepsOthers.of_grownBy (grown_below BV.out) (fun _ _ h => by cases h)).trans Q5.out).from _, (KF.of BV.out).trans Q4.out, by rw [HKK.out]; exact Q3.out, hbo.trans (Q6.out.mono (by omega))⟩
    · have hkk := HAT.out
      rw [if_neg hk, List.append_nil] at hkk
      have HKK := Lib.hid hkk
      clear hkk HAT
      gi_wp2_with fail
      exact ⟨(KeepsOthers.refl _).from _, KF.refl _ _, by rw [HKK.out]; exact OD.out, BW.out⟩
  case done =>
    rintro D ys W hD hys ⟨h1, h2⟩ hK
    obtain ⟨v, hv, ho⟩ := h1.row
    rw [hys, plA_atoms] at ho
    obtain ⟨A9, c9, rfl⟩ := own_shape ho
    have HV := Lib.hid hv
    have OW := Lib.hid ho
    have HK := Lib.hid hK
    have HD := Lib.hid hD
    have BW := Lib.hid h2
    clear h1 h2 ho hK hD hys
    gi_wp2_with fail
    refine ⟨by simp, .inl ⟨_, _, rfl, run_takeDeferred HK.out, ?_⟩⟩
    have hb := BW.out.trans (belowK_b (w := w) (Nat.le_refl _) W D _ (.deferred none) (Nat.le_trans B3.out.size HD.out) HK.out rfl rfl)
    obtain ⟨A8, c8, e8, hr8⟩ := Own.rd (own_putD OW.out HK.out rfl (.deferred none)) (fun _ => rfl)
    cases e8
    exact ⟨_, results_tmp rfl _ _ _, A9, c9, rfl, hr8, hb⟩
  case stop =>
    rintro D c pre W hD hpre h hK
    exact h.elim
end
section
/- Plain law: the reference's truth (chandleryref14) in plain terms: what its loops over a state come to. -/


open Go.RowKit Go.Shelf
set_option linter.unusedVariables false
namespace Tr

section
variable {N : Nat} {pv : Nat → Dp → Bool} {S : List Int}
/-- is it a number of the pool's, and does it do something? -/
def inN (N : Nat) (p : Nat → Bool) (z : Int) : Bool := decide (0 ≤ z ∧ z < (N : Int)) && p z.toNat
theorem inN_out {p : Nat → Bool} {z : Int} (h : ¬ (0 ≤ z ∧ z < (N : Int))) : inN N p z = false := by unfold inN; rw [decide_eq_false h]; rfl
theorem inN_in {p : Nat → Bool} {z : Int} (h : 0 ≤ z ∧ z < (N : Int)) : inN N p z = p z.toNat := by unfold inN; rw [decide_eq_true h]; rfl
end
end Tr
end
section
/- Plain law: TruthProviders: the packages that are kept, and what is asked of the Atoms' Deps. -/






open Go.RowKit Go.Shelf
set_option linter.unusedVariables false

theorem okF_of_may {t : RT} (h : mayT 1 t = 0) : okF 1 false t = true := by
  unfold mayT at h
  rw [if_neg (by omega)] at h
  split at h
  · cases h
  · split at h
    · cases h
    · split at h
      · assumption
      · cases h
theorem okP_atom {wh : Int} {n : Nat} {d : Dp} {al : Bool} (h : okP wh 1 n d al = true) : dmayB d = true := by
  unfold okP at h
  simp only [Bool.and_eq_true] at h
  have h2 := h.2.2.2.2.1
  simpa using h2
mutual
theorem atoms_may {wh : Int} : ∀ (t : RT) (al : Bool), okF wh al t = true → ∀ d ∈ atomsT t, dmayB d = true
  | .mk k d l, al, h, d', hd => by
    rw [okF, Bool.and_eq_true] at h
    rw [atomsT, List.mem_append] at hd
    rcases hd with hd | hd
    · by_cases hk : k = 1
      · rw [if_pos hk] at hd
        obtain rfl := List.mem_singleton.1 hd
        subst hk
        exact okP_atom h.1
      · rw [if_neg hk] at hd; cases hd
    · exact atoms_mayL l _ h.2 d' hd
theorem atoms_mayL {wh : Int} : ∀ (l : List RT) (al : Bool), okFL wh al l = true → ∀ d ∈ atomsTL l, dmayB d = true
  | [], _, _, d', hd => by rw [atomsTL] at hd; cases hd
  | t :: l, al, h, d', hd => by
    rw [okFL, Bool.and_eq_true] at h
    rw [atomsTL, List.mem_append] at hd
    rcases hd with hd | hd
    · exact atoms_may t al h.1 d' hd
    · exact atoms_mayL l al h.2 d' hd
end
mutual
theorem atoms_len : ∀ t : RT, (atomsT t).length ≤ t.parts
  | .mk k d l => by
    rw [atomsT, List.length_append, RT.parts]
    have := atoms_lenL l
    by_cases h : k = 1
    · rw [if_pos h]; simp; omega
    · rw [if_neg h]; simp; omega
theorem atoms_lenL : ∀ l : List RT, (atomsTL l).length ≤ partsL l
  | [] => Nat.le_refl _
  | t :: l => by
    rw [atomsTL, List.length_append, partsL]
    have := atoms_len t
    have := atoms_lenL l
    omega
end
theorem mem_atomsTL {d : Dp} : ∀ l : List RT, d ∈ atomsTL l → ∃ t ∈ l, d ∈ atomsT t
  | [], h => by rw [atomsTL] at h; cases h
  | t :: l, h => by
    rw [atomsTL, List.mem_append] at h
    rcases h with h | h
    · exact ⟨t, List.mem_cons_self .., h⟩
    · obtain ⟨t', h1, h2⟩ := mem_atomsTL l h
      exact ⟨t', List.mem_cons_of_mem _ h1, h2⟩
theorem atoms_wf {B : Nat} {W : World} {R : RV} (h : RTree B W R) : ∀ d ∈ atomsT R.tree, d.wf := by
  induction h with
  | @mk t hw _ _ ih =>
    intro d hd
    obtain ⟨k, e, A, c, l⟩ := t
    rw [RV.tree, atomsT, List.mem_append] at hd
    rcases hd with hd | hd
    · by_cases hk : k = 1
      · rw [if_pos hk] at hd
        obtain rfl := List.mem_singleton.1 hd
        exact hw
      · rw [if_neg hk] at hd; cases hd
    · obtain ⟨u, hu, hd⟩ := mem_atomsTL _ hd
      rw [treeL_map, List.mem_map] at hu
      obtain ⟨a, ha, rfl⟩ := hu
      exact ih a ha d hd
/-- of a state the packages that provide one of some Deps -/
def someV (N : Nat) (L2 : List Pk) (aL : List Dp) (S : List Int) : List Int := S.filter (Tr.inN N fun n => aL.any (pvL L2 n))
theorem someV_succ (N : Nat) (L2 : List Pk) (aL : List Dp) (S : List Int) {k : Nat} (hk : k < S.length) : someV N L2 aL (S.take (k + 1)) = someV N L2 aL (S.take k) ++ (if Tr.inN N (fun n => aL.any (pvL L2 n)) S[k] = true then [S[k]] else []) := by
  unfold someV
  rw [List.take_succ_eq_append_getElem hk, List.filter_append, List.filter_cons]
  rfl
theorem someV_len (N : Nat) (L2 : List Pk) (aL : List Dp) (S : List Int) : (someV N L2 aL S).length ≤ S.length := List.length_filter_le _ _
theorem some_sat {N : Nat} {L2 : List Pk} {S : List Int} {t : RT} (h : mayT 1 t = 0) : Tr.satS N (pvL L2) (someV N L2 (atomsT t) S) t = Tr.satS N (pvL L2) S t := by
  unfold Tr.satS
  rw [Tr.sat_sift (wh := 1) (by omega) (aL := atomsT t) (inn := St.inS S) (inn' := St.inS (someV N L2 (atomsT t) S)) ?_ t false (okF_of_may h) (fun d hd => hd)]
  intro m hm
  unfold someV St.inS
  rw [Bool.eq_iff_iff, Bool.and_eq_true]
  simp only [List.any_eq_true, List.mem_filter, beq_iff_eq]
  constructor
  · rintro ⟨z, ⟨h1, h2⟩, rfl⟩
    rw [Tr.inN_in ⟨by omega, by omega⟩, Int.toNat_natCast] at h2
    exact ⟨⟨_, h1, rfl⟩, List.any_eq_true.1 h2⟩
  · rintro ⟨⟨z, h1, rfl⟩, h2⟩
    refine ⟨_, ⟨h1, ?_⟩, rfl⟩
    rw [Tr.inN_in ⟨by omega, by omega⟩, Int.toNat_natCast]
    exact List.any_eq_true.2 h2
theorem prov_alike {p q : Pk} (h : Alike p q) (d : Dp) : provB q d = provB p d := by
  unfold provB Pk.ownD
  rw [h.name, h.evr, h.prov, h.files]
theorem pvL_at {L : List Pr} {L2 : List Pk} (ha : AlikeL (L.map Pr.pk) L2) {n : Nat} (hn : n < L.length) {q : Pk} (hq : Alike L[n].pk q) : pvL L2 n = provB q := by
  funext d
  have h1 : n < (L.map Pr.pk).length := by rw [List.length_map]; exact hn
  have h2 : n < L2.length := by have := ha.1; omega
  unfold pvL
  rw [List.getElem?_eq_getElem h2, Option.any_some, prov_alike (ha.2 n h1 h2), prov_alike hq, List.getElem_map]
end
end Go.Proofs.YteobmfpbgnmffaaGreatDoor
