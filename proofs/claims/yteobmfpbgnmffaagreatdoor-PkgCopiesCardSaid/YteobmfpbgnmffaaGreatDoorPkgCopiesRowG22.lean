/- PkIter, ShTell, ShOf, ShMay, PkMayA, PkPlain -/
import Derived.Test.YteobmfpbgnmffaaGreatDoorPkgCopiesRowG21
import Derived.Test.YteobmfpbgnmffaaGreatDoorPkgCopiesRowG03
import Derived.Test.YteobmfpbgnmffaaGreatDoorPkgCopiesRowG12
import Derived.Test.YteobmfpbgnmffaaGreatDoorPkgCopiesRowG14
import Derived.Test.YteobmfpbgnmffaaGreatDoorPkgCopiesRowG13
import Derived.Test.YteobmfpbgnmffaaGreatDoorPkgCopiesRowG15
import Derived.Test.YteobmfpbgnmffaaGreatDoorPkgCopiesRowG09
import Derived.Laws.EntriesVeiled
import Derived.Deep.Cut
import Derived.Deep.WholeRow
set_option linter.unusedSimpArgs false
set_option linter.unusedVariables false
namespace Go.Proofs.YteobmfpbgnmffaaGreatDoor
section
/- Walks: the iterator of pkg.lists: six lists, and as what they are asked. -/



open Go.RowKit Go.Shelf
set_option linter.unusedVariables false
attribute [local go_sem] Oper.semAt_some
attribute [local go_sem ↓ high] asked_wide

structure LX where
  wh : Int
  A : Option Addr
  c : Nat
  l : List RV
def LS (p : Pk) : List LX := [⟨1, p.reqA, p.reqC, p.req⟩, ⟨2, p.conA, p.conC, p.con⟩, ⟨1, p.rcmA, p.rcmC, p.rcm⟩, ⟨3, p.supA, p.supC, p.sup⟩, ⟨1, p.sugA, p.sugC, p.sug⟩, ⟨3, p.enhA, p.enhC, p.enh⟩]
abbrev LXof (p : Pk) := { x : LX // x ∈ LS p }
def lx0 (p : Pk) : LXof p := ⟨⟨1, p.reqA, p.reqC, p.req⟩, by simp [LS]⟩
def lx1 (p : Pk) : LXof p := ⟨⟨2, p.conA, p.conC, p.con⟩, by simp [LS]⟩
def lx2 (p : Pk) : LXof p := ⟨⟨1, p.rcmA, p.rcmC, p.rcm⟩, by simp [LS]⟩
def lx3 (p : Pk) : LXof p := ⟨⟨3, p.supA, p.supC, p.sup⟩, by simp [LS]⟩
def lx4 (p : Pk) : LXof p := ⟨⟨1, p.sugA, p.sugC, p.sug⟩, by simp [LS]⟩
def lx5 (p : Pk) : LXof p := ⟨⟨3, p.enhA, p.enhC, p.enh⟩, by simp [LS]⟩
def LSA (p : Pk) : List (LXof p) := [lx0 p, lx1 p, lx2 p, lx3 p, lx4 p, lx5 p]
def lxArgs {p : Pk} (x : LXof p) : Array Value := #[.int .u8 x.1.wh, .slice x.1.A x.1.l.length x.1.c]
def KP (Bs : Nat) (W W' : World) : Prop := (∀ i, W'.cell? ⟨Bs, i, none⟩ = W.cell? ⟨Bs, i, none⟩) ∧ W.heap.size ≤ W'.heap.size
set_option maxRecDepth 100000 in
set_option maxHeartbeats 16000000 in
theorem lists1_in (n : Nat) (l Bs : Nat) (p : Pk) (J Jx : List (LXof p) → World → Prop)
    (hY : ∀ pre x W, J pre W → pre.length < 6 → YieldAt Fence.wide (n - 1) Tryz.prog l (lxArgs x) W fun e W' =>
      (e = .returned (.bool true) ∧ J (pre ++ [x]) W' ∧ KP Bs W W') ∨ (e = .returned (.bool false) ∧ Jx (pre ++ [x]) W'))
    (W : World) (hBs : PkAt W Bs p) (h0 : J [] W) :
    CallsIn Fence.wide n Tryz.prog 123 #[.func (.yield l) #[] #[], .pointer (some ⟨Bs, 0, none⟩)] W fun e W' => (∃ v, e = .returned v) ∧
      ((∃ ys, ys = LSA p ∧ J ys W') ∨ (∃ pre, pre <+: LSA p ∧ Jx pre W')) := by
  refine callsIn_of_wp Tryz.func123 rfl trivial ?_ rfl
  simp only [Tryz.ntmps123, List.size_toArray, List.length_cons, List.length_nil, Nat.reduceAdd, Nat.reduceSub, Array.replicate_succ, Array.replicate_zero, List.push_toArray, List.append_toArray, List.nil_append, List.cons_append]
  obtain ⟨hl, c0, c1, c2, c3, c4, c5, c6, f7, f8, c9, f10, f11, f12, f13, c14⟩ := hBs
  clear c0 c1 c2 c3 c4 c5 c6 c9 c14
  obtain ⟨fn0, tm0, as0, bd0, hy0, hR0⟩ := hY [] (lx0 p) W h0 (by simp)
  unfold lxArgs lx0 at hy0
  dsimp only at hy0
  gi_wp2
  refine ⟨fun h => absurd h (by decide), hR0.mono ?_⟩
  rintro e W1 (⟨rfl, hJ1, hk1⟩ | ⟨rfl, hJx⟩)
  rotate_left
  · gi_wp2
    repeat (refine ⟨fun _ h => (by cases h), ?_⟩; gi_wp2)
    refine bodyPost_end (results_none rfl _ _ _) rfl ?_
    exact ⟨⟨_, rfl⟩, .inr ⟨_, ⟨_, rfl⟩, hJx⟩⟩
  have f8 := (hk1.1 8).trans f8
  have f10 := (hk1.1 10).trans f10
  have f11 := (hk1.1 11).trans f11
  have f12 := (hk1.1 12).trans f12
  have f13 := (hk1.1 13).trans f13
  clear hR0 hy0 hk1
  obtain ⟨fn1, tm1, as1, bd1, hy1, hR1⟩ := hY [lx0 p] (lx1 p) W1 hJ1 (by simp)
  unfold lxArgs lx1 at hy1
  dsimp only at hy1
  gi_wp2
  refine ⟨fun h => absurd h (by decide), hR1.mono ?_⟩
  rintro e W2 (⟨rfl, hJ2, hk2⟩ | ⟨rfl, hJx⟩)
  rotate_left
  · gi_wp2
    repeat (refine ⟨fun _ h => (by cases h), ?_⟩; gi_wp2)
    refine bodyPost_end (results_none rfl _ _ _) rfl ?_
    exact ⟨⟨_, rfl⟩, .inr ⟨_, ⟨_, rfl⟩, hJx⟩⟩
  have f10 := (hk2.1 10).trans f10
  have f11 := (hk2.1 11).trans f11
  have f12 := (hk2.1 12).trans f12
  have f13 := (hk2.1 13).trans f13
  clear hR1 hy1 hk2
  obtain ⟨fn2, tm2, as2, bd2, hy2, hR2⟩ := hY [lx0 p, lx1 p] (lx2 p) W2 hJ2 (by simp)
  unfold lxArgs lx2 at hy2
  dsimp only at hy2
  gi_wp2
  refine ⟨fun h => absurd h (by decide), hR2.mono ?_⟩
  rintro e W3 (⟨rfl, hJ3, hk3⟩ | ⟨rfl, hJx⟩)
  rotate_left
  · gi_wp2
    repeat (refine ⟨fun _ h => (by cases h), ?_⟩; gi_wp2)
    refine bodyPost_end (results_none rfl _ _ _) rfl ?_
    exact ⟨⟨_, rfl⟩, .inr ⟨_, ⟨_, rfl⟩, hJx⟩⟩
  have f11 := (hk3.1 11).trans f11
  have f12 := (hk3.1 12).trans f12
  have f13 := (hk3.1 13).trans f13
  clear hR2 hy2 hk3
  obtain ⟨fn3, tm3, as3, bd3, hy3, hR3⟩ := hY [lx0 p, lx1 p, lx2 p] (lx3 p) W3 hJ3 (by simp)
  unfold lxArgs lx3 at hy3
  dsimp only at hy3
  gi_wp2
  refine ⟨fun h => absurd h (by decide), hR3.mono ?_⟩
  rintro e W4 (⟨rfl, hJ4, hk4⟩ | ⟨rfl, hJx⟩)
  rotate_left
  · gi_wp2
    repeat (refine ⟨fun _ h => (by cases h), ?_⟩; gi_wp2)
    refine bodyPost_end (results_none rfl _ _ _) rfl ?_
    exact ⟨⟨_, rfl⟩, .inr ⟨_, ⟨_, rfl⟩, hJx⟩⟩
  have f12 := (hk4.1 12).trans f12
  have f13 := (hk4.1 13).trans f13
  clear hR3 hy3 hk4
  obtain ⟨fn4, tm4, as4, bd4, hy4, hR4⟩ := hY [lx0 p, lx1 p, lx2 p, lx3 p] (lx4 p) W4 hJ4 (by simp)
  unfold lxArgs lx4 at hy4
  dsimp only at hy4
  gi_wp2
  refine ⟨fun h => absurd h (by decide), hR4.mono ?_⟩
  rintro e W5 (⟨rfl, hJ5, hk5⟩ | ⟨rfl, hJx⟩)
  rotate_left
  · gi_wp2
    repeat (refine ⟨fun _ h => (by cases h), ?_⟩; gi_wp2)
    refine bodyPost_end (results_none rfl _ _ _) rfl ?_
    exact ⟨⟨_, rfl⟩, .inr ⟨_, ⟨_, rfl⟩, hJx⟩⟩
  have f13 := (hk5.1 13).trans f13
  clear hR4 hy4 hk5
  obtain ⟨fn5, tm5, as5, bd5, hy5, hR5⟩ := hY [lx0 p, lx1 p, lx2 p, lx3 p, lx4 p] (lx5 p) W5 hJ5 (by simp)
  unfold lxArgs lx5 at hy5
  dsimp only at hy5
  gi_wp2
  refine ⟨fun h => absurd h (by decide), hR5.mono ?_⟩
  rintro e W6 (⟨rfl, hJ6, hk6⟩ | ⟨rfl, hJx⟩)
  rotate_left
  · gi_wp2
    repeat (refine ⟨fun _ h => (by cases h), ?_⟩; gi_wp2)
    refine bodyPost_end (results_none rfl _ _ _) rfl ?_
    exact ⟨⟨_, rfl⟩, .inr ⟨_, ⟨_, rfl⟩, hJx⟩⟩
  clear hR5 hy5 hk6
  gi_wp2
  refine bodyPost_end (results_none rfl _ _ _) rfl ?_
  exact ⟨⟨_, rfl⟩, .inl ⟨_, rfl, hJ6⟩⟩
end
section
/- Walks: shape's iterator over the parts of a rich dependency: a closure that calls itself and hands yield on. -/




open Go.RowKit Go.Shelf
set_option linter.unusedVariables false
attribute [local go_sem] Oper.semAt_some
attribute [local go_sem ↓ high] asked_wide

/-- the parts in the row in which they are told, each with whether it stands within a With or a Without -/
def alone (al : Bool) (k : Int) : Bool := al || (k == 6 || k == 7)
end
section
/- Walk: what a Kind asks (shape.of); which rich dependencies may be at a place, in plain terms. -/





open Go.RowKit Go.Shelf
set_option linter.unusedVariables false

structure Ask where
  least : Int
  most : Int
  alone : Bool
  wh : Int
def askOf (k : Int) : Ask :=
  if k = 1 then ⟨0, 0, true, 3⟩ else if k = 2 ∨ k = 3 ∨ k = 6 then ⟨2, 24, true, 3⟩ else if k = 4 then ⟨2, 3, false, 1⟩ else if k = 5 then ⟨2, 3, false, 2⟩ else if k = 7 then ⟨2, 2, true, 3⟩ else ⟨0, 0, false, 0⟩
end
section
/- Walk: whether a rich dependency may be at a place (shape.May). -/




open Go.RowKit Go.Shelf
set_option linter.unusedVariables false
attribute [local go_sem] Oper.semAt_some
attribute [local go_sem ↓ high] asked_wide

def okP (wh k : Int) (n : Nat) (d : Dp) (al : Bool) : Bool :=
  decide (wh ≤ (askOf k).wh) && (!(al && !(askOf k).alone) && (decide ((askOf k).least ≤ (n : Int)) && (decide ((n : Int) ≤ (askOf k).most) && (!(k == 1 && !dmayB d) && !(k != 1 && !isZeroT d)))))
end
section
/- Walk: whether any package may be (pkg.May). -/





open Go.RowKit Go.Shelf
set_option linter.unusedVariables false
attribute [local go_sem] Oper.semAt_some
attribute [local go_sem ↓ high] asked_wide

theorem kp_tA {Bs : Nat} {A B C : World} (h : KP Bs A B) (k : KP Bs B C) : KP Bs A C := ⟨fun i => (k.1 i).trans (h.1 i), Nat.le_trans h.2 k.2⟩
theorem kp_bA {Bs : Nat} {w : World} (hn : Bs < w.heap.size) (W : World) (l : Nat) (o o' : Obj) (hl : w.heap.size ≤ l) (_ : W.heap[l]? = some o) (_ : o.isCells = false) (_ : o.isWalk = false) : KP Bs W (W.putObj l o') :=
  ⟨fun i => World.cell?_of_block (World.putObj_heap_other (by simp; omega)), (grownBy_putObj' W l o').size⟩
theorem kp_callsA {Bs : Nat} {W W' : World} (hn : Bs < W.heap.size) (h : Below W.heap.size W W') : KP Bs W W' := ⟨fun i => h.cell (p := ⟨Bs, i, none⟩) hn, h.size⟩
theorem kp_pastA {Bs n : Nat} {W W' : World} (hn : Bs < n) (h : Below n W W') : KP Bs W W' := ⟨fun i => h.cell (p := ⟨Bs, i, none⟩) hn, h.size⟩
theorem kp_atA {Bs : Nat} {W W' : World} {p : Pk} (h : PkAt W Bs p) (k : KP Bs W W') : PkAt W' Bs p := by
  obtain ⟨hl, c0, c1, c2, c3, c4, c5, c6, c7, c8, c9, c10, c11, c12, c13, c14⟩ := h
  exact ⟨Nat.lt_of_lt_of_le hl k.2, (k.1 0).trans c0, (k.1 1).trans c1, (k.1 2).trans c2, (k.1 3).trans c3, (k.1 4).trans c4, (k.1 5).trans c5, (k.1 6).trans c6, (k.1 7).trans c7, (k.1 8).trans c8, (k.1 9).trans c9, (k.1 10).trans c10, (k.1 11).trans c11, (k.1 12).trans c12, (k.1 13).trans c13, (k.1 14).trans c14⟩
theorem lists_stopsA (n : Nat) (Bs : Nat) (p : Pk) (w : World) (hB : PkAt w Bs p) : SeqStopsK Fence.wide n Tryz.prog 123 #[.pointer (some ⟨Bs, 0, none⟩)] (lxArgs (p := p)) (KP Bs) (fun ys => ys = LSA p) (fun pre => pre <+: LSA p) 6 w :=
  fun l J Jx W hW hJ _ hY h0 => lists1_in n l Bs p J Jx hY W (kp_atA hB (kp_callsA hB.1 hW)) h0
section
variable {w W W' : World} {p : Pk} {r : Bool}
end
/-- a range over a function whose loop variable is boxed: what the assign code leaves is told by the frame's own update -/
theorem wpIn_rangeFunc_ownA {F : Fence} {n : Nat} {P : Program} {w : World} {α : Type} {g : Operand} {ps : Array Tmp} {assign body : Code} {Q : Exit → Act → World → Prop} {a : Act}
    (hro : F.round = none) (h1 : 1 ≤ n) {gf : Nat} {lb : Array Value} (hg : a.eval g = .func (.func gf) #[] lb) (hFg : F.fn gf) (eg : ∀ args w, (callFunc gf args).run P w = .ok (.enter gf args) w)
    {encs : α → Array Value} {Kp : World → World → Prop} {S Sp : List α → Prop} {N : Nat} {w0 : World} (hseq : SeqStopsK F (n - 1) P gf lb encs Kp S Sp N w0)
    (hKt : ∀ {A B C : World}, Kp A B → Kp B C → Kp A C) (hKb : ∀ (W : World) (l : Nat) (o o' : Obj), w.heap.size ≤ l → W.heap[l]? = some o → o.isCells = false → o.isWalk = false → Kp W (W.putObj l o')) (hb0 : Below w0.heap.size w0 w) (hps : ∀ x, (encs x).size = ps.size)
    (I : List α → World → Prop) (Ix : Code → List α → World → Prop) (hI : OwnFrom w.heap.size I) (hIx : ∀ c, OwnFrom w.heap.size (Ix c)) (h0 : I [] w) (upd : Act → α → Nat → Act) (BX : α → Nat → World → Prop) (hAx : ∀ x a', OwnFrom w.heap.size (fun (_ : Unit) W => ∃ b, a' = upd a x b ∧ BX x b W))
    (hassign : ∀ (l : Nat) (pre : List α) (x : α) (W : World) (K : Act → World → Prop), I pre W → (∀ a' W', KeepsFrom w.heap.size W W' → Kp W W' → I pre W' → (∃ b, a' = upd a x b ∧ BX x b W') → K a' W') →
      assign.wpIn (F.inRound l) (n - 1 - 1) P (Exit.then K (fun _ _ _ => False)) { tmps := (ps.zip (encs x)).foldl (fun t (p, v) => t.setIfInBounds p v) a.tmps, defers := [] } W)
    (hbody : ∀ (l : Nat) (pre : List α) (x : α) (b : Nat) (W : World), w.heap.size ≤ l → I pre W → BX x b W → pre.length < N → body.wpIn (F.inRound l) (n - 1 - 1) P (ownPostG w.heap.size Kp I Ix (pre ++ [x]) W) (upd a x b) W)
    (hdone : ∀ (D : Nat) (xs : List α) (W : World), w.heap.size ≤ D → S xs → I xs W → W.heap[D]? = some (.deferred (some [])) → Q .normal { a with defers := { target := .collected D, args := #[] } :: a.defers } W)
    (hstop : ∀ (D : Nat) (c : Code) (pre : List α) (W : World), w.heap.size ≤ D → Sp pre → Ix c pre W → W.heap[D]? = some (.deferred (some [])) → c.wpIn F n P Q { a with defers := { target := .collected D, args := #[] } :: a.defers } W) :
    (Code.rangeFunc g ps assign body).wpIn F n P Q a w :=
  wpIn_rangeFunc_ownH hro h1 hg hFg eg hseq hKt hKb hb0 hps I Ix hI hIx h0 (fun x a' W => ∃ b, a' = upd a x b ∧ BX x b W) hAx hassign (fun l pre x a' W hl _ hi ⟨b, e, hb⟩ hlen => by subst e; exact hbody l pre x b W hl hi hb hlen) hdone hstop
theorem lx_wh {p : Pk} {x : LX} (h : x ∈ LS p) : 0 ≤ x.wh ∧ x.wh ≤ 255 := by
  simp only [LS, List.mem_cons, List.not_mem_nil, or_false] at h
  rcases h with rfl | rfl | rfl | rfl | rfl | rfl
  all_goals exact ⟨by dsimp only; omega, by dsimp only; omega⟩
theorem lx_row {p : Pk} {B : Nat} {W : World} (hL : p.Laid B W) {x : LX} (h : x ∈ LS p) : RRow B W x.A x.c x.l := by
  simp only [LS, List.mem_cons, List.not_mem_nil, or_false] at h
  rcases h with rfl | rfl | rfl | rfl | rfl | rfl
  · exact hL.req
  · exact hL.con
  · exact hL.rcm
  · exact hL.sup
  · exact hL.sug
  · exact hL.enh
end
section
/- Plain law: whether a package may be hangs on its trees alone; without one of a list it may be still. -/


open Go.RowKit Go.Shelf
set_option linter.unusedVariables false

mutual
def okF (wh : Int) (al : Bool) : RT → Bool | .mk k d l => okP wh k l.length d al && okFL wh (alone al k) l
def okFL (wh : Int) (al : Bool) : List RT → Bool | [] => true | t :: l => okF wh al t && okFL wh al l
end
/-- may a tree be, at a place? -/
def mayT (wh : Int) (t : RT) : Int := if wh < 1 ∨ 3 < wh then 1 else if 24 < t.parts then 40 else if 8 < t.deep then 21 else if okF wh false t = true then 0 else 4
def okT (wh : Int) (t : RT) : Bool := mayT wh t == 0
/-- rich dependencies that may be in a list, as a place asks it -/
def rl (wh : Int) (l : List RT) : Prop := l.length ≤ 32 ∧ ∀ t ∈ l, okT wh t = true
end
end Go.Proofs.YteobmfpbgnmffaaGreatDoor
