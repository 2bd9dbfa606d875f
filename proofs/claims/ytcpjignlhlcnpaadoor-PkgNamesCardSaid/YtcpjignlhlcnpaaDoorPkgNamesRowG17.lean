/- PkIter, RlPlain, RichPlain, RlWords -/
import Derived.Test.YtcpjignlhlcnpaaDoorPkgNamesRowG16
import Derived.Test.YtcpjignlhlcnpaaDoorPkgNamesRowG03
import Derived.Test.YtcpjignlhlcnpaaDoorPkgNamesRowG01
import Derived.Test.YtcpjignlhlcnpaaDoorPkgNamesRowG12
import Derived.RangeFuncNested
import Derived.RangeFuncBound
import Derived.RangeFuncCalls
import Derived.RangeFuncLeaves
import Derived.RangeFuncBox
import Derived.Shelf.Abstract
import Derived.Shelf.RegionOpen
import Derived.OwnWalkIn
import Derived.TacticsInMore
import Derived.LoopNIn
import Derived.LoopIn
set_option linter.unusedSimpArgs false
set_option linter.unusedVariables false
namespace Go.Proofs.YtcpjignlhlcnpaaDoor
section
/- Walks: the iterator of pkg.lists: six lists, and as what they are asked. -/



open Go.RowKit Go.Shelf
set_option linter.unusedVariables false
attribute [local go_sem] Oper.semAt_some
attribute [local go_sem ↓ high] asked_wide

structure LX where
  wh : Int
  A : Option Addr
  c : Nat
  l : List RV
def LS (p : Pk) : List LX := [⟨1, p.reqA, p.reqC, p.req⟩, ⟨2, p.conA, p.conC, p.con⟩, ⟨1, p.rcmA, p.rcmC, p.rcm⟩, ⟨3, p.supA, p.supC, p.sup⟩, ⟨1, p.sugA, p.sugC, p.sug⟩, ⟨3, p.enhA, p.enhC, p.enh⟩]
abbrev LXof (p : Pk) := { x : LX // x ∈ LS p }
def lx0 (p : Pk) : LXof p := ⟨⟨1, p.reqA, p.reqC, p.req⟩, by simp [LS]⟩
def lx1 (p : Pk) : LXof p := ⟨⟨2, p.conA, p.conC, p.con⟩, by simp [LS]⟩
def lx2 (p : Pk) : LXof p := ⟨⟨1, p.rcmA, p.rcmC, p.rcm⟩, by simp [LS]⟩
def lx3 (p : Pk) : LXof p := ⟨⟨3, p.supA, p.supC, p.sup⟩, by simp [LS]⟩
def lx4 (p : Pk) : LXof p := ⟨⟨1, p.sugA, p.sugC, p.sug⟩, by simp [LS]⟩
def lx5 (p : Pk) : LXof p := ⟨⟨3, p.enhA, p.enhC, p.enh⟩, by simp [LS]⟩
def LSA (p : Pk) : List (LXof p) := [lx0 p, lx1 p, lx2 p, lx3 p, lx4 p, lx5 p]
def lxArgs {p : Pk} (x : LXof p) : Array Value := #[.int .u8 x.1.wh, .slice x.1.A x.1.l.length x.1.c]
def KP (Bs : Nat) (W W' : World) : Prop := (∀ i, W'.cell? ⟨Bs, i, none⟩ = W.cell? ⟨Bs, i, none⟩) ∧ W.heap.size ≤ W'.heap.size
set_option maxRecDepth 100000 in
set_option maxHeartbeats 16000000 in
theorem lists1_in (n : Nat) (l Bs : Nat) (p : Pk) (J Jx : List (LXof p) → World → Prop)
    (hY : ∀ pre x W, J pre W → pre.length < 6 → YieldAt Fence.wide (n - 1) Tryd.prog l (lxArgs x) W fun e W' =>
      (e = .returned (.bool true) ∧ J (pre ++ [x]) W' ∧ KP Bs W W') ∨ (e = .returned (.bool false) ∧ Jx (pre ++ [x]) W'))
    (W : World) (hBs : PkAt W Bs p) (h0 : J [] W) :
    CallsIn Fence.wide n Tryd.prog 36 #[.func (.yield l) #[] #[], .pointer (some ⟨Bs, 0, none⟩)] W fun e W' => (∃ v, e = .returned v) ∧
      ((∃ ys, ys = LSA p ∧ J ys W') ∨ (∃ pre, pre <+: LSA p ∧ Jx pre W')) := by
  refine callsIn_of_wp Tryd.func36 rfl trivial ?_ rfl
  simp only [Tryd.ntmps36, List.size_toArray, List.length_cons, List.length_nil, Nat.reduceAdd, Nat.reduceSub, Array.replicate_succ, Array.replicate_zero, List.push_toArray, List.append_toArray, List.nil_append, List.cons_append]
  obtain ⟨hl, c0, c1, c2, c3, c4, c5, c6, f7, f8, c9, f10, f11, f12, f13, c14⟩ := hBs
  clear c0 c1 c2 c3 c4 c5 c6 c9 c14
  obtain ⟨fn0, tm0, as0, bd0, hy0, hR0⟩ := hY [] (lx0 p) W h0 (by simp)
  unfold lxArgs lx0 at hy0
  dsimp only at hy0
  gi_wp2
  refine ⟨fun h => absurd h (by decide), hR0.mono ?_⟩
  rintro e W1 (⟨rfl, hJ1, hk1⟩ | ⟨rfl, hJx⟩)
  rotate_left
  · gi_wp2
    repeat (refine ⟨fun _ h => (by cases h), ?_⟩; gi_wp2)
    refine bodyPost_end (results_none rfl _ _ _) rfl ?_
    exact ⟨⟨_, rfl⟩, .inr ⟨_, ⟨_, rfl⟩, hJx⟩⟩
  have f8 := (hk1.1 8).trans f8
  have f10 := (hk1.1 10).trans f10
  have f11 := (hk1.1 11).trans f11
  have f12 := (hk1.1 12).trans f12
  have f13 := (hk1.1 13).trans f13
  clear hR0 hy0 hk1
  obtain ⟨fn1, tm1, as1, bd1, hy1, hR1⟩ := hY [lx0 p] (lx1 p) W1 hJ1 (by simp)
  unfold lxArgs lx1 at hy1
  dsimp only at hy1
  gi_wp2
  refine ⟨fun h => absurd h (by decide), hR1.mono ?_⟩
  rintro e W2 (⟨rfl, hJ2, hk2⟩ | ⟨rfl, hJx⟩)
  rotate_left
  · gi_wp2
    repeat (refine ⟨fun _ h => (by cases h), ?_⟩; gi_wp2)
    refine bodyPost_end (results_none rfl _ _ _) rfl ?_
    exact ⟨⟨_, rfl⟩, .inr ⟨_, ⟨_, rfl⟩, hJx⟩⟩
  have f10 := (hk2.1 10).trans f10
  have f11 := (hk2.1 11).trans f11
  have f12 := (hk2.1 12).trans f12
  have f13 := (hk2.1 13).trans f13
  clear hR1 hy1 hk2
  obtain ⟨fn2, tm2, as2, bd2, hy2, hR2⟩ := hY [lx0 p, lx1 p] (lx2 p) W2 hJ2 (by simp)
  unfold lxArgs lx2 at hy2
  dsimp only at hy2
  gi_wp2
  refine ⟨fun h => absurd h (by decide), hR2.mono ?_⟩
  rintro e W3 (⟨rfl, hJ3, hk3⟩ | ⟨rfl, hJx⟩)
  rotate_left
  · gi_wp2
    repeat (refine ⟨fun _ h => (by cases h), ?_⟩; gi_wp2)
    refine bodyPost_end (results_none rfl _ _ _) rfl ?_
    exact ⟨⟨_, rfl⟩, .inr ⟨_, ⟨_, rfl⟩, hJx⟩⟩
  have f11 := (hk3.1 11).trans f11
  have f12 := (hk3.1 12).trans f12
  have f13 := (hk3.1 13).trans f13
  clear hR2 hy2 hk3
  obtain ⟨fn3, tm3, as3, bd3, hy3, hR3⟩ := hY [lx0 p, lx1 p, lx2 p] (lx3 p) W3 hJ3 (by simp)
  unfold lxArgs lx3 at hy3
  dsimp only at hy3
  gi_wp2
  refine ⟨fun h => absurd h (by decide), hR3.mono ?_⟩
  rintro e W4 (⟨rfl, hJ4, hk4⟩ | ⟨rfl, hJx⟩)
  rotate_left
  · gi_wp2
    repeat (refine ⟨fun _ h => (by cases h), ?_⟩; gi_wp2)
    refine bodyPost_end (results_none rfl _ _ _) rfl ?_
    exact ⟨⟨_, rfl⟩, .inr ⟨_, ⟨_, rfl⟩, hJx⟩⟩
  have f12 := (hk4.1 12).trans f12
  have f13 := (hk4.1 13).trans f13
  clear hR3 hy3 hk4
  obtain ⟨fn4, tm4, as4, bd4, hy4, hR4⟩ := hY [lx0 p, lx1 p, lx2 p, lx3 p] (lx4 p) W4 hJ4 (by simp)
  unfold lxArgs lx4 at hy4
  dsimp only at hy4
  gi_wp2
  refine ⟨fun h => absurd h (by decide), hR4.mono ?_⟩
  rintro e W5 (⟨rfl, hJ5, hk5⟩ | ⟨rfl, hJx⟩)
  rotate_left
  · gi_wp2
    repeat (refine ⟨fun _ h => (by cases h), ?_⟩; gi_wp2)
    refine bodyPost_end (results_none rfl _ _ _) rfl ?_
    exact ⟨⟨_, rfl⟩, .inr ⟨_, ⟨_, rfl⟩, hJx⟩⟩
  have f13 := (hk5.1 13).trans f13
  clear hR4 hy4 hk5
  obtain ⟨fn5, tm5, as5, bd5, hy5, hR5⟩ := hY [lx0 p, lx1 p, lx2 p, lx3 p, lx4 p] (lx5 p) W5 hJ5 (by simp)
  unfold lxArgs lx5 at hy5
  dsimp only at hy5
  gi_wp2
  refine ⟨fun h => absurd h (by decide), hR5.mono ?_⟩
  rintro e W6 (⟨rfl, hJ6, hk6⟩ | ⟨rfl, hJx⟩)
  rotate_left
  · gi_wp2
    repeat (refine ⟨fun _ h => (by cases h), ?_⟩; gi_wp2)
    refine bodyPost_end (results_none rfl _ _ _) rfl ?_
    exact ⟨⟨_, rfl⟩, .inr ⟨_, ⟨_, rfl⟩, hJx⟩⟩
  clear hR5 hy5 hk6
  gi_wp2
  refine bodyPost_end (results_none rfl _ _ _) rfl ?_
  exact ⟨⟨_, rfl⟩, .inl ⟨_, rfl, hJ6⟩⟩
end
section
/- The words of a text, in plain terms: brackets by themselves, longest runs of other bytes, spaces between. Nothing of the program here. -/


open Go.RowKit

abbrev Tok := Nat × Bytes
end
section
/- Rich dependencies in plain terms: which are whole, their words, and what is read out of words. -/



open Go.RowKit

inductive RT where
  | mk (k : Int) (d : Dp) (l : List RT)
def zeroT : Dp := ⟨[], 0, zeroE⟩
def isZeroT (d : Dp) : Bool := d.name.isEmpty && (d.op == 0 && isZero d.evr)
mutual
def RT.parts : RT → Nat | .mk _ _ l => 1 + partsL l
def partsL : List RT → Nat | [] => 0 | t :: l => t.parts + partsL l
end
mutual
def RT.deep : RT → Nat | .mk k _ l => if k = 1 then 0 else deepL l + 1
def deepL : List RT → Nat | [] => 0 | t :: l => max t.deep (deepL l)
end
/- reading -/
/- what is read is whole, and its words stand there -/
theorem deepL_app (l r : List RT) : deepL (l ++ r) = max (deepL l) (deepL r) := by
  induction l with
  | nil => simp [deepL]
  | cons a l ih => simp [deepL, ih, Nat.max_assoc]
theorem parts_pos (t : RT) : 1 ≤ t.parts := by obtain ⟨k, d, l⟩ := t; unfold RT.parts; omega
theorem partsL_len (l : List RT) : l.length ≤ partsL l := by
  induction l with
  | nil => simp
  | cons a l ih => have := parts_pos a; simp only [partsL, List.length_cons]; omega
/- what is refused, and where -/
/- words that are whole are read -/
/- the rich dependency of a text -/
end
section
/- Walks: lex.Words: the words of any text, or what is wrong where. -/


open Go.RowKit Go.Shelf
attribute [local go_sem] Oper.semAt_some

def encTok (x : Tok) : List Value := [.string (bs x.2), .int .i64 (x.1 : Int)]
end
end Go.Proofs.YtcpjignlhlcnpaaDoor
