/- PkPlain, RefCopy -/
import Derived.Test.YteobmfpbgnmffaaGreatDoorTruthMoreRowG18
import Derived.Test.YteobmfpbgnmffaaGreatDoorTruthMoreRowG10
import Derived.Test.YteobmfpbgnmffaaGreatDoorTruthMoreRowG11
set_option linter.unusedSimpArgs false
set_option linter.unusedVariables false
namespace Go.Proofs.YteobmfpbgnmffaaGreatDoor
section
/- Plain law: whether a package may be hangs on its trees alone; without one of a list it may be still. -/


open Go.RowKit Go.Shelf
set_option linter.unusedVariables false

mutual
def okF (wh : Int) (al : Bool) : RT → Bool | .mk k d l => okP wh k l.length d al && okFL wh (alone al k) l
def okFL (wh : Int) (al : Bool) : List RT → Bool | [] => true | t :: l => okF wh al t && okFL wh al l
end
mutual
theorem pl_okF (wh : Int) : ∀ (T : RV) (al : Bool), (pl al T).all (okX wh) = okF wh al T.tree
  | .node k d A c l, al => by
    have h := plL_okF wh l (alone al k)
    rw [pl, RV.tree, okF, List.all_cons, h, treeL_len]
    rfl
theorem plL_okF (wh : Int) : ∀ (l : List RV) (al : Bool), (plL al l).all (okX wh) = okFL wh al (treeL l)
  | [], al => rfl
  | T :: l, al => by
    have h1 := pl_okF wh T al
    have h2 := plL_okF wh l al
    rw [plL, treeL, okFL, List.all_append, h1, h2]
end
/-- may a tree be, at a place? -/
def mayT (wh : Int) (t : RT) : Int := if wh < 1 ∨ 3 < wh then 1 else if 24 < t.parts then 40 else if 8 < t.deep then 21 else if okF wh false t = true then 0 else 4
def okT (wh : Int) (t : RT) : Bool := mayT wh t == 0
theorem mayE_tree (wh : Int) (T : RV) : mayE wh T = mayT wh T.tree := by unfold mayE mayT; rw [pl_okF]
theorem okR_tree (wh : Int) (T : RV) : okR wh T = okT wh T.tree := by unfold okR okT; rw [mayE_tree]
theorem all_okR (wh : Int) : ∀ l : List RV, l.all (okR wh) = (treeL l).all (okT wh)
  | [] => rfl
  | T :: l => by rw [List.all_cons, treeL, List.all_cons, okR_tree, all_okR wh l]
/-- rich dependencies that may be in a list, as a place asks it -/
def rl (wh : Int) (l : List RT) : Prop := l.length ≤ 32 ∧ ∀ t ∈ l, okT wh t = true
theorem rl_iff (wh : Int) (A : Option Addr) (c : Nat) (l : List RV) : listB ⟨wh, A, c, l⟩ = true ↔ rl wh (treeL l) := by
  unfold listB rl
  rw [all_okR, Bool.and_eq_true, decide_eq_true_eq, treeL_len, List.all_eq_true]
def dl (l : List Dp) : Prop := l.length ≤ 32 ∧ ∀ d ∈ l, dmayB d = true
def sl (l : List ByteArray) : Prop := l.length ≤ 32 ∧ ∀ s ∈ l, fileS s = true
/-- what a package's data must be -/
structure MayD (nm : Bytes) (ev : Evr) (ar : Int) (vs : Nat) (pv ob : List Dp) (fi : List ByteArray) (l0 l1 l2 l3 l4 l5 : List RT) : Prop where
  n : nameB nm = true
  f : fileB nm = false
  e : mayB ev false = true
  a : archB ar = true
  v : vs ≤ 64
  hpv : dl pv
  hob : dl ob
  hfi : sl fi
  hri : riseB fi = true
  h0 : rl 1 l0
  h1 : rl 2 l1
  h2 : rl 1 l2
  h3 : rl 3 l3
  h4 : rl 1 l4
  h5 : rl 3 l5
theorem mayP_iff (p : Pk) : mayP p = true ↔ MayD p.name.toList p.evr p.arch p.vendor.size p.prov p.obs p.files (treeL p.req) (treeL p.con) (treeL p.rcm) (treeL p.sup) (treeL p.sug) (treeL p.enh) := by
  unfold mayP LS
  simp only [Bool.and_eq_true, Bool.not_eq_true', List.all_cons, List.all_nil, and_true, rl_iff, decide_eq_true_eq]
  constructor
  · rintro ⟨h1, h2, h3, h4, h5, h6, h7, h8, h9, h10, h11, h12, h13, h14, h15⟩
    exact ⟨h1, h2, h3, h4, h5, ⟨h6.1, List.all_eq_true.1 h6.2⟩, ⟨h7.1, List.all_eq_true.1 h7.2⟩, ⟨h8.1, List.all_eq_true.1 h8.2⟩, h9, h10, h11, h12, h13, h14, h15⟩
  · rintro ⟨h1, h2, h3, h4, h5, h6, h7, h8, h9, h10, h11, h12, h13, h14, h15⟩
    exact ⟨h1, h2, h3, h4, h5, ⟨h6.1, List.all_eq_true.2 h6.2⟩, ⟨h7.1, List.all_eq_true.2 h7.2⟩, ⟨h8.1, List.all_eq_true.2 h8.2⟩, h9, h10, h11, h12, h13, h14, h15⟩
end
section
/- Walk: a package in new memory (chandleryref10.Copy). -/





open Go.RowKit Go.Shelf
set_option linter.unusedVariables false

theorem put_noneC (a : Act) (v : Value) : a.put none v = a := rfl
/-- a row of rich dependencies of the call's own, and their parts -/
structure ROwn (base : Nat) (l : List RV) (v : Value) (W : World) : Prop where
  own : Own encR 7 base 39 v l W
  tr : ∀ a ∈ l, TQ (fun b => base ≤ b ∧ b < W.heap.size ∧ v.ownBlock ≠ some b) W a
theorem ROwn.butR {base R : Nat} {l : List RV} {v : Value} {W W' : World} (h : ROwn base l v W) (hb : ButR R W W') (hR : R < base) : ROwn base l v W' :=
  ⟨h.own.butR hb hR, fun a ha => (h.tr a ha).keep (fun b hq => ⟨hq.1, Nat.lt_of_lt_of_le hq.2.1 hb.size, hq.2.2⟩) fun b hq => hb.block b hq.2.1 (by omega)⟩
theorem ROwn.row {base : Nat} {l : List RV} {A : Option Addr} {c : Nat} {W : World} (h : ROwn base l (.slice A l.length c) W) : RRow W.heap.size W A c l := by
  obtain ⟨A', c', e, hr⟩ := h.own.rd encR_len
  cases e
  exact ⟨hr, fun t ht => (h.tr t ht).rtree (fun b hb => hb.2.1)⟩
theorem own_rd' {α : Type} {enc : α → List Value} {size base : Nat} {e : TypeId} {l : List α} {A : Option Addr} {c : Nat} {w : World} (h : Own enc size base e (.slice A l.length c) l w) (he : ∀ x, (enc x).length = size) : Rd enc size w.heap.size A c l w := by
  obtain ⟨A', c', e, hr⟩ := h.rd he
  cases e
  exact hr
def encT1 (s : ByteArray) : List Value := [Value.string s]
theorem encT1_len (s : ByteArray) : (encT1 s).length = 1 := rfl
theorem encT1_one (s : ByteArray) : ∀ u ∈ encT1 s, u.oneCell' = true := by
  intro u hu; simp only [encT1, List.mem_cons, List.not_mem_nil, or_false] at hu; rw [hu]; rfl
/-- a package all of whose rows are the call's own -/
structure PkOwn (base : Nat) (p : Pk) (W : World) : Prop where
  prov : Own encD 5 base 37 (.slice p.provA p.prov.length p.provC) p.prov W
  obs : Own encD 5 base 37 (.slice p.obsA p.obs.length p.obsC) p.obs W
  files : Own encT1 1 base 9 (.slice p.filesA p.files.length p.filesC) p.files W
  req : ROwn base p.req (.slice p.reqA p.req.length p.reqC) W
  con : ROwn base p.con (.slice p.conA p.con.length p.conC) W
  rcm : ROwn base p.rcm (.slice p.rcmA p.rcm.length p.rcmC) W
  sup : ROwn base p.sup (.slice p.supA p.sup.length p.supC) W
  sug : ROwn base p.sug (.slice p.sugA p.sug.length p.sugC) W
  enh : ROwn base p.enh (.slice p.enhA p.enh.length p.enhC) W
theorem PkOwn.butR {base R : Nat} {p : Pk} {W W' : World} (h : PkOwn base p W) (hb : ButR R W W') (hR : R < base) : PkOwn base p W' :=
  ⟨h.prov.butR hb hR, h.obs.butR hb hR, h.files.butR hb hR, h.req.butR hb hR, h.con.butR hb hR, h.rcm.butR hb hR, h.sup.butR hb hR, h.sug.butR hb hR, h.enh.butR hb hR⟩
/-- two packages of the same data -/
structure Alike (p q : Pk) : Prop where
  name : q.name = p.name
  epoch : q.epoch = p.epoch
  ver : q.ver = p.ver
  rel : q.rel = p.rel
  arch : q.arch = p.arch
  vendor : q.vendor = p.vendor
  prov : q.prov = p.prov
  obs : q.obs = p.obs
  files : q.files = p.files
  req : treeL q.req = treeL p.req
  con : treeL q.con = treeL p.con
  rcm : treeL q.rcm = treeL p.rcm
  sup : treeL q.sup = treeL p.sup
  sug : treeL q.sug = treeL p.sug
  enh : treeL q.enh = treeL p.enh
theorem Alike.evr {p q : Pk} (h : Alike p q) : q.evr = p.evr := by unfold Pk.evr; rw [h.epoch, h.ver, h.rel]
theorem Alike.may {p q : Pk} (h : Alike p q) : mayP q = mayP p := by
  rw [Bool.eq_iff_iff, mayP_iff, mayP_iff, h.name, h.evr, h.arch, h.vendor, h.prov, h.obs, h.files, h.req, h.con, h.rcm, h.sup, h.sug, h.enh]
theorem PkOwn.laid {base B : Nat} {p q : Pk} {W W0 : World} (h : PkOwn base q W) (ha : Alike p q) (hl : p.Laid B W0) : q.Laid W.heap.size W where
  ar := by rw [ha.arch]; exact hl.ar
  ep := by rw [ha.epoch]; exact hl.ep
  n0 := by rw [ha.name]; exact hl.n0
  n1 := by rw [ha.ver]; exact hl.n1
  n2 := by rw [ha.rel]; exact hl.n2
  n3 := by rw [ha.vendor]; exact hl.n3
  prov := own_rd' h.prov encD_len
  provW := by rw [ha.prov]; exact hl.provW
  obs := own_rd' h.obs encD_len
  obsW := by rw [ha.obs]; exact hl.obsW
  files := own_rd' h.files encT1_len
  filesW := by rw [ha.files]; exact hl.filesW
  req := h.req.row
  con := h.con.row
  rcm := h.rcm.row
  sup := h.sup.row
  sug := h.sug.row
  enh := h.enh.row
/-- a package's box, whole -/
def Box15 (b : Nat) (q : Pk) (W : World) : Prop := PkAt W b q ∧ (∀ i, i < 15 → W.frozen? ⟨b, i, none⟩ = false) ∧ b < W.heap.size
theorem Box15.then {b : Nat} {q : Pk} {W W' : World} (h : Box15 b q W) (hb : Below W.heap.size W W') : Box15 b q W' := ⟨h.1.calls hb, fun i hi => (hb.frozen (p := ⟨b, i, none⟩) h.2.2).trans (h.2.1 i hi), Nat.lt_of_lt_of_le h.2.2 hb.size⟩
/-- cells are written, one behind the other -/
def setL (R : Nat) : Nat → List Value → World → World | _, [], W => W | k, v :: l, W => setL R (k + 1) l (W.setCell ⟨R, k, none⟩ v)
theorem setL_butR (R : Nat) : ∀ (l : List Value) (k : Nat) (W : World), ButR R W (setL R k l W)
  | [], _, W => ButR.refl _ _
  | v :: l, k, W => ((ButR.refl R W).set k v).trans (setL_butR R l (k + 1) _)
theorem setL_frozen (R : Nat) : ∀ (l : List Value) (k : Nat) (W : World) (p : Addr), (setL R k l W).frozen? p = W.frozen? p
  | [], _, W, p => rfl
  | v :: l, k, W, p => by rw [setL, setL_frozen R l, World.frozen?_setCell]
theorem setL_low (R : Nat) : ∀ (l : List Value) (k : Nat) (W : World) (i : Nat), i < k → (setL R k l W).cell? ⟨R, i, none⟩ = W.cell? ⟨R, i, none⟩
  | [], _, W, i, _ => rfl
  | v :: l, k, W, i, h => by rw [setL, setL_low R l _ _ _ (by omega)]; exact sc_other (by intro e; simp only [Addr.mk.injEq] at e; omega)
theorem setL_cell (R : Nat) : ∀ (l : List Value) (k : Nat) (W : World), (∀ j, j < l.length → ∃ u, W.cell? ⟨R, k + j, none⟩ = some u) → ∀ j (h : j < l.length), (setL R k l W).cell? ⟨R, k + j, none⟩ = some l[j]
  | [], _, W, _, j, h => by simp at h
  | v :: l, k, W, hc, 0, h => by
    obtain ⟨u, hu⟩ := hc 0 (by simp)
    rw [setL, Nat.add_zero, setL_low R l _ _ _ (by omega)]
    exact sc_same hu
  | v :: l, k, W, hc, j + 1, h => by
    rw [setL, show k + (j + 1) = k + 1 + j by omega]
    exact setL_cell R l (k + 1) _ (fun i hi => by
      obtain ⟨u, hu⟩ := hc (i + 1) (by simp; omega)
      exact ⟨u, (sc_other (by intro e; simp only [Addr.mk.injEq] at e; omega)).trans (by rw [show k + 1 + i = k + (i + 1) by omega]; exact hu)⟩) j (by simpa using h)
def Pk.cells (p : Pk) : List Value := [.string p.name, .int .i64 p.epoch, .string p.ver, .string p.rel, .int .u8 p.arch, .string p.vendor, .slice p.provA p.prov.length p.provC, .slice p.reqA p.req.length p.reqC, .slice p.conA p.con.length p.conC, .slice p.obsA p.obs.length p.obsC, .slice p.rcmA p.rcm.length p.rcmC, .slice p.supA p.sup.length p.supC, .slice p.sugA p.sug.length p.sugC, .slice p.enhA p.enh.length p.enhC, .slice p.filesA p.files.length p.filesC]
theorem Box15.set {b : Nat} {q0 : Pk} {W : World} (h : Box15 b q0 W) (q : Pk) : Box15 b q (setL b 0 q.cells W) := by
  obtain ⟨⟨hl, c0, c1, c2, c3, c4, c5, c6, c7, c8, c9, c10, c11, c12, c13, c14⟩, hf, _⟩ := h
  have hz : b < (setL b 0 q.cells W).heap.size := Nat.lt_of_lt_of_le hl (setL_butR b q.cells 0 W).size
  have hc := setL_cell b q.cells 0 W (fun j hj => by
    have hj : j < 15 := hj
    rw [Nat.zero_add]
    obtain rfl | rfl | rfl | rfl | rfl | rfl | rfl | rfl | rfl | rfl | rfl | rfl | rfl | rfl | rfl : j = 0 ∨ j = 1 ∨ j = 2 ∨ j = 3 ∨ j = 4 ∨ j = 5 ∨ j = 6 ∨ j = 7 ∨ j = 8 ∨ j = 9 ∨ j = 10 ∨ j = 11 ∨ j = 12 ∨ j = 13 ∨ j = 14 := by omega
    all_goals first | exact ⟨_, c0⟩ | exact ⟨_, c1⟩ | exact ⟨_, c2⟩ | exact ⟨_, c3⟩ | exact ⟨_, c4⟩ | exact ⟨_, c5⟩ | exact ⟨_, c6⟩ | exact ⟨_, c7⟩ | exact ⟨_, c8⟩ | exact ⟨_, c9⟩ | exact ⟨_, c10⟩ | exact ⟨_, c11⟩ | exact ⟨_, c12⟩ | exact ⟨_, c13⟩ | exact ⟨_, c14⟩)
  simp only [Nat.zero_add] at hc
  exact ⟨⟨hz, hc 0 (by show 0 < 15; omega), hc 1 (by show 1 < 15; omega), hc 2 (by show 2 < 15; omega), hc 3 (by show 3 < 15; omega), hc 4 (by show 4 < 15; omega), hc 5 (by show 5 < 15; omega), hc 6 (by show 6 < 15; omega), hc 7 (by show 7 < 15; omega), hc 8 (by show 8 < 15; omega), hc 9 (by show 9 < 15; omega), hc 10 (by show 10 < 15; omega), hc 11 (by show 11 < 15; omega), hc 12 (by show 12 < 15; omega), hc 13 (by show 13 < 15; omega), hc 14 (by show 14 < 15; omega)⟩, fun i hi => by rw [setL_frozen]; exact hf i hi, hz⟩
def zPk : Pk := { name := ⟨#[]⟩, epoch := 0, ver := ⟨#[]⟩, rel := ⟨#[]⟩, arch := 0, vendor := ⟨#[]⟩, provA := none, provC := 0, prov := [], reqA := none, reqC := 0, req := [], conA := none, conC := 0, con := [], obsA := none, obsC := 0, obs := [], rcmA := none, rcmC := 0, rcm := [], supA := none, supC := 0, sup := [], sugA := none, sugC := 0, sug := [], enhA := none, enhC := 0, enh := [], filesA := none, filesC := 0, files := [] }
theorem Box15.new (W : World) : Box15 W.heap.size zPk (W.alloc (.cells #[.string ⟨#[]⟩, .int .i64 0, .string ⟨#[]⟩, .string ⟨#[]⟩, .int .u8 0, .string ⟨#[]⟩, .slice none 0 0, .slice none 0 0, .slice none 0 0, .slice none 0 0, .slice none 0 0, .slice none 0 0, .slice none 0 0, .slice none 0 0, .slice none 0 0] 28)) :=
  ⟨PkAt.new W zPk, fun i hi => by simp [go_sem], by simp⟩
/-- not more than a copy goes over -/
structure Pk.few (p : Pk) : Prop where
  nprov : p.prov.length ≤ 1000000
  nobs : p.obs.length ≤ 1000000
  nfiles : p.files.length ≤ 1000000
  req : partsL (treeL p.req) ≤ 900000
  con : partsL (treeL p.con) ≤ 900000
  rcm : partsL (treeL p.rcm) ≤ 900000
  sup : partsL (treeL p.sup) ≤ 900000
  sug : partsL (treeL p.sug) ≤ 900000
  enh : partsL (treeL p.enh) ≤ 900000
end
end Go.Proofs.YteobmfpbgnmffaaGreatDoor
