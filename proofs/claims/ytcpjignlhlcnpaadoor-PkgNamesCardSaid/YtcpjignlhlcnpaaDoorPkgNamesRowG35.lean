/- PkPlain -/
import Derived.Test.YtcpjignlhlcnpaaDoorPkgNamesRowG29
set_option linter.unusedSimpArgs false
set_option linter.unusedVariables false
/- Plain law: whether a package may be hangs on its trees alone; without one of a list it may be still. -/

namespace Go.Proofs.YtcpjignlhlcnpaaDoor
open Go.RowKit Go.Shelf
set_option linter.unusedVariables false

mutual
def okF (wh : Int) (al : Bool) : RT → Bool | .mk k d l => okP wh k l.length d al && okFL wh (alone al k) l
def okFL (wh : Int) (al : Bool) : List RT → Bool | [] => true | t :: l => okF wh al t && okFL wh al l
end
mutual
theorem pl_okF (wh : Int) : ∀ (T : RV) (al : Bool), (pl al T).all (okX wh) = okF wh al T.tree
  | .node k d A c l, al => by
    have h := plL_okF wh l (alone al k)
    rw [pl, RV.tree, okF, List.all_cons, h, treeL_len]
    rfl
theorem plL_okF (wh : Int) : ∀ (l : List RV) (al : Bool), (plL al l).all (okX wh) = okFL wh al (treeL l)
  | [], al => rfl
  | T :: l, al => by
    have h1 := pl_okF wh T al
    have h2 := plL_okF wh l al
    rw [plL, treeL, okFL, List.all_append, h1, h2]
end
/-- may a tree be, at a place? -/
def mayT (wh : Int) (t : RT) : Int := if wh < 1 ∨ 3 < wh then 1 else if 24 < t.parts then 40 else if 8 < t.deep then 21 else if okF wh false t = true then 0 else 4
def okT (wh : Int) (t : RT) : Bool := mayT wh t == 0
theorem mayE_tree (wh : Int) (T : RV) : mayE wh T = mayT wh T.tree := by unfold mayE mayT; rw [pl_okF]
theorem okR_tree (wh : Int) (T : RV) : okR wh T = okT wh T.tree := by unfold okR okT; rw [mayE_tree]
theorem all_okR (wh : Int) : ∀ l : List RV, l.all (okR wh) = (treeL l).all (okT wh)
  | [] => rfl
  | T :: l => by rw [List.all_cons, treeL, List.all_cons, okR_tree, all_okR wh l]
mutual
def RT.kOk : RT → Bool | .mk k d l => decide (0 ≤ k ∧ k ≤ 255) && kOkL l
def kOkL : List RT → Bool | [] => true | t :: l => t.kOk && kOkL l
end
theorem KO_iff : ∀ T : RV, KO T ↔ T.tree.kOk = true
  | .node k d A c l => by
    have ih : ∀ a ∈ l, (KO a ↔ a.tree.kOk = true) := fun a ha => KO_iff a
    have hl : ∀ m : List RV, kOkL (treeL m) = true ↔ ∀ a ∈ m, a.tree.kOk = true := by
      intro m
      induction m with
      | nil => simp [treeL, kOkL]
      | cons a m ihm => simp [treeL, kOkL, ihm]
    rw [RV.tree, RT.kOk, Bool.and_eq_true, decide_eq_true_eq, hl]
    constructor
    · intro h; exact ⟨h.byte, fun a ha => (ih a ha).1 (h.sub a ha)⟩
    · intro h; exact .mk h.1 fun a ha => (ih a ha).2 (h.2 a ha)
theorem KO_of_tree {T T' : RV} (h : T'.tree = T.tree) (hk : KO T) : KO T' := (KO_iff T').2 (h ▸ (KO_iff T).1 hk)
/-- rich dependencies that may be in a list, as a place asks it -/
def rl (wh : Int) (l : List RT) : Prop := l.length ≤ 32 ∧ ∀ t ∈ l, okT wh t = true
theorem rl_iff (wh : Int) (A : Option Addr) (c : Nat) (l : List RV) : listB ⟨wh, A, c, l⟩ = true ↔ rl wh (treeL l) := by
  unfold listB rl
  rw [all_okR, Bool.and_eq_true, decide_eq_true_eq, treeL_len, List.all_eq_true]
def dl (l : List Dp) : Prop := l.length ≤ 32 ∧ ∀ d ∈ l, dmayB d = true
def sl (l : List ByteArray) : Prop := l.length ≤ 32 ∧ ∀ s ∈ l, fileS s = true
/-- what a package's data must be -/
structure MayD (nm : Bytes) (ev : Evr) (ar : Int) (vs : Nat) (pv ob : List Dp) (fi : List ByteArray) (l0 l1 l2 l3 l4 l5 : List RT) : Prop where
  n : nameB nm = true
  f : fileB nm = false
  e : mayB ev false = true
  a : archB ar = true
  v : vs ≤ 64
  hpv : dl pv
  hob : dl ob
  hfi : sl fi
  hri : riseB fi = true
  h0 : rl 1 l0
  h1 : rl 2 l1
  h2 : rl 1 l2
  h3 : rl 3 l3
  h4 : rl 1 l4
  h5 : rl 3 l5
theorem mayP_iff (p : Pk) : mayP p = true ↔ MayD p.name.toList p.evr p.arch p.vendor.size p.prov p.obs p.files (treeL p.req) (treeL p.con) (treeL p.rcm) (treeL p.sup) (treeL p.sug) (treeL p.enh) := by
  unfold mayP LS
  simp only [Bool.and_eq_true, Bool.not_eq_true', List.all_cons, List.all_nil, and_true, rl_iff, decide_eq_true_eq]
  constructor
  · rintro ⟨h1, h2, h3, h4, h5, h6, h7, h8, h9, h10, h11, h12, h13, h14, h15⟩
    exact ⟨h1, h2, h3, h4, h5, ⟨h6.1, List.all_eq_true.1 h6.2⟩, ⟨h7.1, List.all_eq_true.1 h7.2⟩, ⟨h8.1, List.all_eq_true.1 h8.2⟩, h9, h10, h11, h12, h13, h14, h15⟩
  · rintro ⟨h1, h2, h3, h4, h5, h6, h7, h8, h9, h10, h11, h12, h13, h14, h15⟩
    exact ⟨h1, h2, h3, h4, h5, ⟨h6.1, List.all_eq_true.2 h6.2⟩, ⟨h7.1, List.all_eq_true.2 h7.2⟩, ⟨h8.1, List.all_eq_true.2 h8.2⟩, h9, h10, h11, h12, h13, h14, h15⟩
end Go.Proofs.YtcpjignlhlcnpaaDoor
