/- RefCopy -/
import Derived.Test.YtcpjignlhlcnpaaDoorPkgNamesRowG32
import Derived.Test.YtcpjignlhlcnpaaDoorPkgNamesRowG34
import Derived.Test.YtcpjignlhlcnpaaDoorPkgNamesRowG29
import Derived.Test.YtcpjignlhlcnpaaDoorPkgNamesRowG35
set_option linter.unusedSimpArgs false
set_option linter.unusedVariables false
open List (getElem?_toArray getElem?_cons_zero getElem?_cons_succ setIfInBounds_toArray set_cons_zero set_cons_succ take_succ_cons take_zero)
/- Walk: a package in new memory (chandleryref10.Copy). -/




namespace Go.Proofs.YtcpjignlhlcnpaaDoor
open Go.RowKit Go.Shelf
set_option linter.unusedVariables false

theorem put_noneC (a : Act) (v : Value) : a.put none v = a := rfl
theorem put_someC {t : Array Value} {ds : List Deferred} {d : Tmp} {v : Value} : Act.put ⟨t, ds⟩ (some d) v = ⟨t.setIfInBounds d v, ds⟩ := rfl
/-- a row of rich dependencies of the call's own, and their parts -/
structure ROwn (base : Nat) (l : List RV) (v : Value) (W : World) : Prop where
  own : Own encR 7 base 28 v l W
  tr : ∀ a ∈ l, TQ (fun b => base ≤ b ∧ b < W.heap.size ∧ v.ownBlock ≠ some b) W a
theorem ROwn.butR {base R : Nat} {l : List RV} {v : Value} {W W' : World} (h : ROwn base l v W) (hb : ButR R W W') (hR : R < base) : ROwn base l v W' :=
  ⟨h.own.butR hb hR, fun a ha => (h.tr a ha).keep (fun b hq => ⟨hq.1, Nat.lt_of_lt_of_le hq.2.1 hb.size, hq.2.2⟩) fun b hq => hb.block b hq.2.1 (by omega)⟩
theorem ROwn.of_CS {base : Nat} {w wr : World} {l : List RV} {v : Value} (h : CS w l v wr) (hb : base ≤ w.heap.size) : ROwn base l v wr :=
  ⟨Own.more h.own hb, fun a ha => (h.tr a ha).keep (fun b hq => ⟨by omega, hq.2⟩) fun _ _ => rfl⟩
theorem ROwn.row {base : Nat} {l : List RV} {A : Option Addr} {c : Nat} {W : World} (h : ROwn base l (.slice A l.length c) W) : RRow W.heap.size W A c l := by
  obtain ⟨A', c', e, hr⟩ := h.own.rd encR_len
  cases e
  exact ⟨hr, fun t ht => (h.tr t ht).rtree (fun b hb => hb.2.1)⟩
theorem own_rd' {α : Type} {enc : α → List Value} {size base : Nat} {e : TypeId} {l : List α} {A : Option Addr} {c : Nat} {w : World} (h : Own enc size base e (.slice A l.length c) l w) (he : ∀ x, (enc x).length = size) : Rd enc size w.heap.size A c l w := by
  obtain ⟨A', c', e, hr⟩ := h.rd he
  cases e
  exact hr
def encT1 (s : ByteArray) : List Value := [Value.string s]
theorem encT1_len (s : ByteArray) : (encT1 s).length = 1 := rfl
theorem encT1_one (s : ByteArray) : ∀ u ∈ encT1 s, u.oneCell' = true := by
  intro u hu; simp only [encT1, List.mem_cons, List.not_mem_nil, or_false] at hu; rw [hu]; rfl
/-- a package all of whose rows are the call's own -/
structure PkOwn (base : Nat) (p : Pk) (W : World) : Prop where
  prov : Own encD 5 base 25 (.slice p.provA p.prov.length p.provC) p.prov W
  obs : Own encD 5 base 25 (.slice p.obsA p.obs.length p.obsC) p.obs W
  files : Own encT1 1 base 9 (.slice p.filesA p.files.length p.filesC) p.files W
  req : ROwn base p.req (.slice p.reqA p.req.length p.reqC) W
  con : ROwn base p.con (.slice p.conA p.con.length p.conC) W
  rcm : ROwn base p.rcm (.slice p.rcmA p.rcm.length p.rcmC) W
  sup : ROwn base p.sup (.slice p.supA p.sup.length p.supC) W
  sug : ROwn base p.sug (.slice p.sugA p.sug.length p.sugC) W
  enh : ROwn base p.enh (.slice p.enhA p.enh.length p.enhC) W
theorem PkOwn.butR {base R : Nat} {p : Pk} {W W' : World} (h : PkOwn base p W) (hb : ButR R W W') (hR : R < base) : PkOwn base p W' :=
  ⟨h.prov.butR hb hR, h.obs.butR hb hR, h.files.butR hb hR, h.req.butR hb hR, h.con.butR hb hR, h.rcm.butR hb hR, h.sup.butR hb hR, h.sug.butR hb hR, h.enh.butR hb hR⟩
theorem PkOwn.below {base : Nat} {p : Pk} {W W' : World} (h : PkOwn base p W) (hb : Below W.heap.size W W') (h0 : 0 < base) : PkOwn base p W' := h.butR (R := 0) (.of hb) h0
/-- two packages of the same data -/
structure Alike (p q : Pk) : Prop where
  name : q.name = p.name
  epoch : q.epoch = p.epoch
  ver : q.ver = p.ver
  rel : q.rel = p.rel
  arch : q.arch = p.arch
  vendor : q.vendor = p.vendor
  prov : q.prov = p.prov
  obs : q.obs = p.obs
  files : q.files = p.files
  req : treeL q.req = treeL p.req
  con : treeL q.con = treeL p.con
  rcm : treeL q.rcm = treeL p.rcm
  sup : treeL q.sup = treeL p.sup
  sug : treeL q.sug = treeL p.sug
  enh : treeL q.enh = treeL p.enh
theorem Alike.evr {p q : Pk} (h : Alike p q) : q.evr = p.evr := by unfold Pk.evr; rw [h.epoch, h.ver, h.rel]
theorem Alike.may {p q : Pk} (h : Alike p q) : mayP q = mayP p := by
  rw [Bool.eq_iff_iff, mayP_iff, mayP_iff, h.name, h.evr, h.arch, h.vendor, h.prov, h.obs, h.files, h.req, h.con, h.rcm, h.sup, h.sug, h.enh]
theorem deep_of {l l' : List RV} (h : treeL l' = treeL l) (hd : ∀ t ∈ l, KO t ∧ t.tree.parts ≤ 1000000) : ∀ t ∈ l', KO t ∧ t.tree.parts ≤ 1000000 := by
  intro t ht
  obtain ⟨i, hi, rfl⟩ := List.getElem_of_mem ht
  have hl : l'.length = l.length := by rw [← treeL_len, h, treeL_len]
  have hi2 : i < l.length := by omega
  have e : l'[i].tree = l[i].tree := by rw [← treeL_get l' i hi, ← treeL_get l i hi2]; simp only [h]
  obtain ⟨h1, h2⟩ := hd l[i] (List.getElem_mem hi2)
  exact ⟨KO_of_tree e h1, by rw [e]; exact h2⟩
theorem Alike.deep {p q : Pk} (h : Alike p q) (hd : p.deepOk) : q.deepOk := by
  intro x hx
  simp only [LS, List.mem_cons, List.not_mem_nil, or_false] at hx
  have H : ∀ (wh : Int) A c (l : List RV), (⟨wh, A, c, l⟩ : LX) ∈ LS p → ∀ t ∈ l, KO t ∧ t.tree.parts ≤ 1000000 := fun wh A c l hm => hd _ hm
  rcases hx with rfl | rfl | rfl | rfl | rfl | rfl
  · exact deep_of h.req (H 1 p.reqA p.reqC p.req (by simp [LS]))
  · exact deep_of h.con (H 2 p.conA p.conC p.con (by simp [LS]))
  · exact deep_of h.rcm (H 1 p.rcmA p.rcmC p.rcm (by simp [LS]))
  · exact deep_of h.sup (H 3 p.supA p.supC p.sup (by simp [LS]))
  · exact deep_of h.sug (H 1 p.sugA p.sugC p.sug (by simp [LS]))
  · exact deep_of h.enh (H 3 p.enhA p.enhC p.enh (by simp [LS]))
theorem PkOwn.laid {base B : Nat} {p q : Pk} {W W0 : World} (h : PkOwn base q W) (ha : Alike p q) (hl : p.Laid B W0) : q.Laid W.heap.size W where
  ar := by rw [ha.arch]; exact hl.ar
  ep := by rw [ha.epoch]; exact hl.ep
  n0 := by rw [ha.name]; exact hl.n0
  n1 := by rw [ha.ver]; exact hl.n1
  n2 := by rw [ha.rel]; exact hl.n2
  n3 := by rw [ha.vendor]; exact hl.n3
  prov := own_rd' h.prov encD_len
  provW := by rw [ha.prov]; exact hl.provW
  obs := own_rd' h.obs encD_len
  obsW := by rw [ha.obs]; exact hl.obsW
  files := own_rd' h.files encT1_len
  filesW := by rw [ha.files]; exact hl.filesW
  req := h.req.row
  con := h.con.row
  rcm := h.rcm.row
  sup := h.sup.row
  sug := h.sug.row
  enh := h.enh.row
def cpP (p : Pk) (b0 base : Nat) (i : Nat) (v : Value) (W : World) : Prop := match i with
  | 0 => v = .pointer (some ⟨b0, 0, none⟩)
  | 1 => v = .string p.name
  | 2 => v = .pointer (some ⟨b0, 1, none⟩)
  | 3 => v = .agg #[.int .i64 p.epoch, .string p.ver, .string p.rel]
  | 4 => v = .pointer (some ⟨b0, 4, none⟩)
  | 5 => v = .int .u8 p.arch
  | 6 => v = .pointer (some ⟨b0, 5, none⟩)
  | 7 => v = .string p.vendor
  | 8 => ∃ g, v = .slice (some ⟨g, 0, none⟩) 0 0 ∧ W.ownsRow base 25 5 v 0 []
  | 9 => v = .pointer (some ⟨b0, 6, none⟩)
  | 10 => v = .slice p.provA p.prov.length p.provC
  | 11 => ∃ A c, v = .slice A p.prov.length c ∧ Own encD 5 base 25 v p.prov W
  | 12 => v = .pointer (some ⟨b0, 7, none⟩)
  | 13 => v = .slice p.reqA p.req.length p.reqC
  | 14 => ∃ A c, ∃ l : List RV, v = .slice A l.length c ∧ treeL l = treeL p.req ∧ ROwn base l v W
  | 15 => v = .pointer (some ⟨b0, 8, none⟩)
  | 16 => v = .slice p.conA p.con.length p.conC
  | 17 => ∃ A c, ∃ l : List RV, v = .slice A l.length c ∧ treeL l = treeL p.con ∧ ROwn base l v W
  | 18 => ∃ g, v = .slice (some ⟨g, 0, none⟩) 0 0 ∧ W.ownsRow base 25 5 v 0 []
  | 19 => v = .pointer (some ⟨b0, 9, none⟩)
  | 20 => v = .slice p.obsA p.obs.length p.obsC
  | 21 => ∃ A c, v = .slice A p.obs.length c ∧ Own encD 5 base 25 v p.obs W
  | 22 => v = .pointer (some ⟨b0, 10, none⟩)
  | 23 => v = .slice p.rcmA p.rcm.length p.rcmC
  | 24 => ∃ A c, ∃ l : List RV, v = .slice A l.length c ∧ treeL l = treeL p.rcm ∧ ROwn base l v W
  | 25 => v = .pointer (some ⟨b0, 11, none⟩)
  | 26 => v = .slice p.supA p.sup.length p.supC
  | 27 => ∃ A c, ∃ l : List RV, v = .slice A l.length c ∧ treeL l = treeL p.sup ∧ ROwn base l v W
  | 28 => v = .pointer (some ⟨b0, 12, none⟩)
  | 29 => v = .slice p.sugA p.sug.length p.sugC
  | 30 => ∃ A c, ∃ l : List RV, v = .slice A l.length c ∧ treeL l = treeL p.sug ∧ ROwn base l v W
  | 31 => v = .pointer (some ⟨b0, 13, none⟩)
  | 32 => v = .slice p.enhA p.enh.length p.enhC
  | 33 => ∃ A c, ∃ l : List RV, v = .slice A l.length c ∧ treeL l = treeL p.enh ∧ ROwn base l v W
  | 34 => ∃ g, v = .slice (some ⟨g, 0, none⟩) 0 0 ∧ W.ownsRow base 9 1 v 0 []
  | 35 => v = .pointer (some ⟨b0, 14, none⟩)
  | 36 => v = .slice p.filesA p.files.length p.filesC
  | 37 => ∃ A c, v = .slice A p.files.length c ∧ Own encT1 1 base 9 v p.files W
  | 38 => ∃ q : Pk, v = q.val ∧ Alike p q ∧ PkOwn base q W
  | _ => False
theorem cpP_mono (p : Pk) (b0 base R : Nat) (hR : R < base) : ∀ i v w w', cpP p b0 base i v w → ButR R w w' → cpP p b0 base i v w' := by
  intro i v w w' h hb
  match i, h with
  | 0, h => exact h
  | 1, h => exact h
  | 2, h => exact h
  | 3, h => exact h
  | 4, h => exact h
  | 5, h => exact h
  | 6, h => exact h
  | 7, h => exact h
  | 8, h => obtain ⟨g, e, ho⟩ := h; subst e; exact ⟨g, rfl, Own.butR (enc := encD) (l := []) ho hb hR⟩
  | 9, h => exact h
  | 10, h => exact h
  | 11, h => obtain ⟨A, c, e, ho⟩ := h; exact ⟨A, c, e, ho.butR hb hR⟩
  | 12, h => exact h
  | 13, h => exact h
  | 14, h => obtain ⟨A, c, l, e, ht, ho⟩ := h; exact ⟨A, c, l, e, ht, ho.butR hb hR⟩
  | 15, h => exact h
  | 16, h => exact h
  | 17, h => obtain ⟨A, c, l, e, ht, ho⟩ := h; exact ⟨A, c, l, e, ht, ho.butR hb hR⟩
  | 18, h => obtain ⟨g, e, ho⟩ := h; subst e; exact ⟨g, rfl, Own.butR (enc := encD) (l := []) ho hb hR⟩
  | 19, h => exact h
  | 20, h => exact h
  | 21, h => obtain ⟨A, c, e, ho⟩ := h; exact ⟨A, c, e, ho.butR hb hR⟩
  | 22, h => exact h
  | 23, h => exact h
  | 24, h => obtain ⟨A, c, l, e, ht, ho⟩ := h; exact ⟨A, c, l, e, ht, ho.butR hb hR⟩
  | 25, h => exact h
  | 26, h => exact h
  | 27, h => obtain ⟨A, c, l, e, ht, ho⟩ := h; exact ⟨A, c, l, e, ht, ho.butR hb hR⟩
  | 28, h => exact h
  | 29, h => exact h
  | 30, h => obtain ⟨A, c, l, e, ht, ho⟩ := h; exact ⟨A, c, l, e, ht, ho.butR hb hR⟩
  | 31, h => exact h
  | 32, h => exact h
  | 33, h => obtain ⟨A, c, l, e, ht, ho⟩ := h; exact ⟨A, c, l, e, ht, ho.butR hb hR⟩
  | 34, h => obtain ⟨g, e, ho⟩ := h; subst e; exact ⟨g, rfl, Own.butR (enc := encT1) (l := []) ho hb hR⟩
  | 35, h => exact h
  | 36, h => exact h
  | 37, h => obtain ⟨A, c, e, ho⟩ := h; exact ⟨A, c, e, ho.butR hb hR⟩
  | 38, h => obtain ⟨q, e, a, hq⟩ := h; exact ⟨q, e, a, hq.butR hb hR⟩
  | (n + 39), h => exact h.elim
theorem ButR.below2 {R B : Nat} {w w' : World} (h : ButR R w w') (hB : B ≤ R) (hR : R < w.heap.size) : Below B w w' := h.below hB hR
/-- a package's box, whole -/
def Box15 (b : Nat) (q : Pk) (W : World) : Prop := PkAt W b q ∧ (∀ i, i < 15 → W.frozen? ⟨b, i, none⟩ = false) ∧ b < W.heap.size
theorem Box15.then {b : Nat} {q : Pk} {W W' : World} (h : Box15 b q W) (hb : Below W.heap.size W W') : Box15 b q W' := ⟨h.1.calls hb, fun i hi => (hb.frozen (p := ⟨b, i, none⟩) h.2.2).trans (h.2.1 i hi), Nat.lt_of_lt_of_le h.2.2 hb.size⟩
/-- cells are written, one behind the other -/
def setL (R : Nat) : Nat → List Value → World → World | _, [], W => W | k, v :: l, W => setL R (k + 1) l (W.setCell ⟨R, k, none⟩ v)
theorem setL_butR (R : Nat) : ∀ (l : List Value) (k : Nat) (W : World), ButR R W (setL R k l W)
  | [], _, W => ButR.refl _ _
  | v :: l, k, W => ((ButR.refl R W).set k v).trans (setL_butR R l (k + 1) _)
theorem setL_frozen (R : Nat) : ∀ (l : List Value) (k : Nat) (W : World) (p : Addr), (setL R k l W).frozen? p = W.frozen? p
  | [], _, W, p => rfl
  | v :: l, k, W, p => by rw [setL, setL_frozen R l, World.frozen?_setCell]
theorem setL_low (R : Nat) : ∀ (l : List Value) (k : Nat) (W : World) (i : Nat), i < k → (setL R k l W).cell? ⟨R, i, none⟩ = W.cell? ⟨R, i, none⟩
  | [], _, W, i, _ => rfl
  | v :: l, k, W, i, h => by rw [setL, setL_low R l _ _ _ (by omega)]; exact sc_other (by intro e; simp only [Addr.mk.injEq] at e; omega)
theorem setL_cell (R : Nat) : ∀ (l : List Value) (k : Nat) (W : World), (∀ j, j < l.length → ∃ u, W.cell? ⟨R, k + j, none⟩ = some u) → ∀ j (h : j < l.length), (setL R k l W).cell? ⟨R, k + j, none⟩ = some l[j]
  | [], _, W, _, j, h => by simp at h
  | v :: l, k, W, hc, 0, h => by
    obtain ⟨u, hu⟩ := hc 0 (by simp)
    rw [setL, Nat.add_zero, setL_low R l _ _ _ (by omega)]
    exact sc_same hu
  | v :: l, k, W, hc, j + 1, h => by
    rw [setL, show k + (j + 1) = k + 1 + j by omega]
    exact setL_cell R l (k + 1) _ (fun i hi => by
      obtain ⟨u, hu⟩ := hc (i + 1) (by simp; omega)
      exact ⟨u, (sc_other (by intro e; simp only [Addr.mk.injEq] at e; omega)).trans (by rw [show k + 1 + i = k + (i + 1) by omega]; exact hu)⟩) j (by simpa using h)
def Pk.cells (p : Pk) : List Value := [.string p.name, .int .i64 p.epoch, .string p.ver, .string p.rel, .int .u8 p.arch, .string p.vendor, .slice p.provA p.prov.length p.provC, .slice p.reqA p.req.length p.reqC, .slice p.conA p.con.length p.conC, .slice p.obsA p.obs.length p.obsC, .slice p.rcmA p.rcm.length p.rcmC, .slice p.supA p.sup.length p.supC, .slice p.sugA p.sug.length p.sugC, .slice p.enhA p.enh.length p.enhC, .slice p.filesA p.files.length p.filesC]
theorem Box15.set {b : Nat} {q0 : Pk} {W : World} (h : Box15 b q0 W) (q : Pk) : Box15 b q (setL b 0 q.cells W) := by
  obtain ⟨⟨hl, c0, c1, c2, c3, c4, c5, c6, c7, c8, c9, c10, c11, c12, c13, c14⟩, hf, _⟩ := h
  have hz : b < (setL b 0 q.cells W).heap.size := Nat.lt_of_lt_of_le hl (setL_butR b q.cells 0 W).size
  have hc := setL_cell b q.cells 0 W (fun j hj => by
    have hj : j < 15 := hj
    rw [Nat.zero_add]
    obtain rfl | rfl | rfl | rfl | rfl | rfl | rfl | rfl | rfl | rfl | rfl | rfl | rfl | rfl | rfl : j = 0 ∨ j = 1 ∨ j = 2 ∨ j = 3 ∨ j = 4 ∨ j = 5 ∨ j = 6 ∨ j = 7 ∨ j = 8 ∨ j = 9 ∨ j = 10 ∨ j = 11 ∨ j = 12 ∨ j = 13 ∨ j = 14 := by omega
    all_goals first | exact ⟨_, c0⟩ | exact ⟨_, c1⟩ | exact ⟨_, c2⟩ | exact ⟨_, c3⟩ | exact ⟨_, c4⟩ | exact ⟨_, c5⟩ | exact ⟨_, c6⟩ | exact ⟨_, c7⟩ | exact ⟨_, c8⟩ | exact ⟨_, c9⟩ | exact ⟨_, c10⟩ | exact ⟨_, c11⟩ | exact ⟨_, c12⟩ | exact ⟨_, c13⟩ | exact ⟨_, c14⟩)
  simp only [Nat.zero_add] at hc
  exact ⟨⟨hz, hc 0 (by show 0 < 15; omega), hc 1 (by show 1 < 15; omega), hc 2 (by show 2 < 15; omega), hc 3 (by show 3 < 15; omega), hc 4 (by show 4 < 15; omega), hc 5 (by show 5 < 15; omega), hc 6 (by show 6 < 15; omega), hc 7 (by show 7 < 15; omega), hc 8 (by show 8 < 15; omega), hc 9 (by show 9 < 15; omega), hc 10 (by show 10 < 15; omega), hc 11 (by show 11 < 15; omega), hc 12 (by show 12 < 15; omega), hc 13 (by show 13 < 15; omega), hc 14 (by show 14 < 15; omega)⟩, fun i hi => by rw [setL_frozen]; exact hf i hi, hz⟩
def zPk : Pk := { name := ⟨#[]⟩, epoch := 0, ver := ⟨#[]⟩, rel := ⟨#[]⟩, arch := 0, vendor := ⟨#[]⟩, provA := none, provC := 0, prov := [], reqA := none, reqC := 0, req := [], conA := none, conC := 0, con := [], obsA := none, obsC := 0, obs := [], rcmA := none, rcmC := 0, rcm := [], supA := none, supC := 0, sup := [], sugA := none, sugC := 0, sug := [], enhA := none, enhC := 0, enh := [], filesA := none, filesC := 0, files := [] }
theorem Box15.new (W : World) : Box15 W.heap.size zPk (W.alloc (.cells #[.string ⟨#[]⟩, .int .i64 0, .string ⟨#[]⟩, .string ⟨#[]⟩, .int .u8 0, .string ⟨#[]⟩, .slice none 0 0, .slice none 0 0, .slice none 0 0, .slice none 0 0, .slice none 0 0, .slice none 0 0, .slice none 0 0, .slice none 0 0, .slice none 0 0] 33)) :=
  ⟨PkAt.new W zPk, fun i hi => by simp [go_sem], by simp⟩
theorem PkAt.butR2 {W W' : World} {b R : Nat} {p : Pk} (h : PkAt W b p) (hb : ButR R W W') (hR : b ≠ R) : PkAt W' b p := kp_atA h ⟨fun i => hb.cellK (p := ⟨b, i, none⟩) h.1 hR, hb.size⟩
/-- not more than a copy goes over -/
structure Pk.few (p : Pk) : Prop where
  nprov : p.prov.length ≤ 1000000
  nobs : p.obs.length ≤ 1000000
  nfiles : p.files.length ≤ 1000000
  req : partsL (treeL p.req) ≤ 900000
  con : partsL (treeL p.con) ≤ 900000
  rcm : partsL (treeL p.rcm) ≤ 900000
  sup : partsL (treeL p.sup) ≤ 900000
  sug : partsL (treeL p.sug) ≤ 900000
  enh : partsL (treeL p.enh) ≤ 900000
set_option maxRecDepth 100000 in
set_option maxHeartbeats 16000000 in
theorem refcopy_any (p : Pk) (w : World) (hL : p.Laid w.heap.size w) (hD : p.few) : Calls Tryd.prog 7 #[p.val] w fun e w' => ∃ q : Pk, e = .returned q.val ∧ Alike p q ∧ PkOwn (w.heap.size + 2) q w' ∧ Below w.heap.size w w' := by
  have b2 := ((Below.refl w.heap.size w).alloc (Nat.le_refl _) (.cells #[.string p.name, .int .i64 p.epoch, .string p.ver, .string p.rel, .int .u8 p.arch, .string p.vendor, .slice p.provA p.prov.length p.provC, .slice p.reqA p.req.length p.reqC, .slice p.conA p.con.length p.conC, .slice p.obsA p.obs.length p.obsC, .slice p.rcmA p.rcm.length p.rcmC, .slice p.supA p.sup.length p.supC, .slice p.sugA p.sug.length p.sugC, .slice p.enhA p.enh.length p.enhC, .slice p.filesA p.files.length p.filesC] 33)).alloc (by simp) (.cells #[.string ⟨#[]⟩, .int .i64 0, .string ⟨#[]⟩, .string ⟨#[]⟩, .int .u8 0, .string ⟨#[]⟩, .slice none 0 0, .slice none 0 0, .slice none 0 0, .slice none 0 0, .slice none 0 0, .slice none 0 0, .slice none 0 0, .slice none 0 0, .slice none 0 0] 33)
  have hP := (PkAt.new w p).calls ((Below.refl _ _).alloc (Nat.le_refl _) (.cells #[.string ⟨#[]⟩, .int .i64 0, .string ⟨#[]⟩, .string ⟨#[]⟩, .int .u8 0, .string ⟨#[]⟩, .slice none 0 0, .slice none 0 0, .slice none 0 0, .slice none 0 0, .slice none 0 0, .slice none 0 0, .slice none 0 0, .slice none 0 0, .slice none 0 0] 33))
  have hZ := Box15.new (w.alloc (.cells #[.string p.name, .int .i64 p.epoch, .string p.ver, .string p.rel, .int .u8 p.arch, .string p.vendor, .slice p.provA p.prov.length p.provC, .slice p.reqA p.req.length p.reqC, .slice p.conA p.con.length p.conC, .slice p.obsA p.obs.length p.obsC, .slice p.rcmA p.rcm.length p.rcmC, .slice p.supA p.sup.length p.supC, .slice p.sugA p.sug.length p.sugC, .slice p.enhA p.enh.length p.enhC, .slice p.filesA p.files.length p.filesC] 33))
  rw [show (w.alloc (.cells #[.string p.name, .int .i64 p.epoch, .string p.ver, .string p.rel, .int .u8 p.arch, .string p.vendor, .slice p.provA p.prov.length p.provC, .slice p.reqA p.req.length p.reqC, .slice p.conA p.con.length p.conC, .slice p.obsA p.obs.length p.obsC, .slice p.rcmA p.rcm.length p.rcmC, .slice p.supA p.sup.length p.supC, .slice p.sugA p.sug.length p.sugC, .slice p.enhA p.enh.length p.enhC, .slice p.filesA p.files.length p.filesC] 33)).heap.size = w.heap.size + 1 by simp] at hZ
  have HL := Lib.hid hL
  have HD := Lib.hid hD
  have HB2 := Lib.hid b2
  have HPP := Lib.hid hP
  have HZ := Lib.hid hZ
  clear hL hD hP hZ b2
  unfold Pk.val
  go_enter Tryd.func7, Tryd.ntmps7
  go_wp2_with fail
  have hs2 := Lib.hid (show ((w.alloc (.cells #[.string p.name, .int .i64 p.epoch, .string p.ver, .string p.rel, .int .u8 p.arch, .string p.vendor, .slice p.provA p.prov.length p.provC, .slice p.reqA p.req.length p.reqC, .slice p.conA p.con.length p.conC, .slice p.obsA p.obs.length p.obsC, .slice p.rcmA p.rcm.length p.rcmC, .slice p.supA p.sup.length p.supC, .slice p.sugA p.sug.length p.sugC, .slice p.enhA p.enh.length p.enhC, .slice p.filesA p.files.length p.filesC] 33)).alloc (.cells #[.string ⟨#[]⟩, .int .i64 0, .string ⟨#[]⟩, .string ⟨#[]⟩, .int .u8 0, .string ⟨#[]⟩, .slice none 0 0, .slice none 0 0, .slice none 0 0, .slice none 0 0, .slice none 0 0, .slice none 0 0, .slice none 0 0, .slice none 0 0, .slice none 0 0] 33)).heap.size = w.heap.size + 2 by simp)
  generalize (w.alloc (.cells #[.string p.name, .int .i64 p.epoch, .string p.ver, .string p.rel, .int .u8 p.arch, .string p.vendor, .slice p.provA p.prov.length p.provC, .slice p.reqA p.req.length p.reqC, .slice p.conA p.con.length p.conC, .slice p.obsA p.obs.length p.obsC, .slice p.rcmA p.rcm.length p.rcmC, .slice p.supA p.sup.length p.supC, .slice p.sugA p.sug.length p.sugC, .slice p.enhA p.enh.length p.enhC, .slice p.filesA p.files.length p.filesC] 33)).alloc (.cells #[.string ⟨#[]⟩, .int .i64 0, .string ⟨#[]⟩, .string ⟨#[]⟩, .int .u8 0, .string ⟨#[]⟩, .slice none 0 0, .slice none 0 0, .slice none 0 0, .slice none 0 0, .slice none 0 0, .slice none 0 0, .slice none 0 0, .slice none 0 0, .slice none 0 0] 33) = V at *
  have hV := HZ.out.2.2
  have hB2s := HB2.out.size
  refine wp_region_vals_last (R := w.heap.size + 1) (PP := cpP p w.heap.size V.heap.size) (Fin := fun W => ∃ q : Pk, Box15 (w.heap.size + 1) q W ∧ Alike p q ∧ PkOwn V.heap.size q W) 39 rfl rfl (by kernel_rfl) (by decide) (cpP_mono p _ _ _ hV) (fun w1 w2 ⟨q, h1, h2, h3⟩ hb => ⟨q, h1.then hb, h2, h3.below hb (by omega)⟩) (Pre := fun W => ∃ q, Box15 (w.heap.size + 1) q W) (fun w1 w2 ⟨q, h⟩ hb => ⟨q, h.then hb⟩) (fun w1 ⟨q, h, _⟩ => ⟨q, h⟩) ⟨_, HZ.out⟩ (fun _ => undef) (by simp only [fillV, put_someC, put_noneC, setIfInBounds_toArray, set_cons_zero, set_cons_succ]) ?_ ?_ ?_
  · intro i o vs W hi ho he hBW K hK
    simp only [fillV, put_someC, put_noneC, setIfInBounds_toArray, set_cons_zero, set_cons_succ] at hK ⊢
    have hPW := HPP.out.butR2 hBW (by omega)
    have hsz : V.heap.size ≤ W.heap.size := hBW.size
    obtain ⟨_, c0, c1, c2, c3, c4, c5, c6, c7, c8, c9, c10, c11, c12, c13, c14⟩ := hPW
    obtain rfl | rfl | rfl | rfl | rfl | rfl | rfl | rfl | rfl | rfl | rfl | rfl | rfl | rfl | rfl | rfl | rfl | rfl | rfl | rfl | rfl | rfl | rfl | rfl | rfl | rfl | rfl | rfl | rfl | rfl | rfl | rfl | rfl | rfl | rfl | rfl | rfl | rfl | rfl := (show i = 0 ∨ i = 1 ∨ i = 2 ∨ i = 3 ∨ i = 4 ∨ i = 5 ∨ i = 6 ∨ i = 7 ∨ i = 8 ∨ i = 9 ∨ i = 10 ∨ i = 11 ∨ i = 12 ∨ i = 13 ∨ i = 14 ∨ i = 15 ∨ i = 16 ∨ i = 17 ∨ i = 18 ∨ i = 19 ∨ i = 20 ∨ i = 21 ∨ i = 22 ∨ i = 23 ∨ i = 24 ∨ i = 25 ∨ i = 26 ∨ i = 27 ∨ i = 28 ∨ i = 29 ∨ i = 30 ∨ i = 31 ∨ i = 32 ∨ i = 33 ∨ i = 34 ∨ i = 35 ∨ i = 36 ∨ i = 37 ∨ i = 38 by omega)
    · simp only [getElem?_toArray, getElem?_cons_zero, getElem?_cons_succ, Option.some.injEq] at ho
      subst ho
      rw [if_pos (by rfl)]
      simp only [put_someC, setIfInBounds_toArray, set_cons_zero, set_cons_succ] at hK
      have HK := Lib.hid hK
      clear hK he hi
      clear c0 c1 c2 c3 c4 c5 c6 c7 c8 c9 c10 c11 c12 c13 c14
      go_simp
      exact HK.out _ _ rfl (Below.refl _ _)
    · simp only [getElem?_toArray, getElem?_cons_zero, getElem?_cons_succ, Option.some.injEq] at ho
      subst ho
      rw [if_pos (by rfl)]
      simp only [put_someC, setIfInBounds_toArray, set_cons_zero, set_cons_succ] at hK
      have h0 : cpP p w.heap.size V.heap.size 0 (vs 0) W := he ⟨0, .data⟩ (by simp) rfl
      have e : vs 0 = .pointer (some ⟨w.heap.size, 0, none⟩) := h0
      rw [e] at hK ⊢
      have HK := Lib.hid hK
      clear hK he hi
      go_simp
      exact HK.out _ _ rfl (Below.refl _ _)
    · simp only [getElem?_toArray, getElem?_cons_zero, getElem?_cons_succ, Option.some.injEq] at ho
      subst ho
      rw [if_pos (by rfl)]
      simp only [put_someC, setIfInBounds_toArray, set_cons_zero, set_cons_succ] at hK
      have HK := Lib.hid hK
      clear hK he hi
      clear c0 c1 c2 c3 c4 c5 c6 c7 c8 c9 c10 c11 c12 c13 c14
      go_simp
      exact HK.out _ _ rfl (Below.refl _ _)
    · simp only [getElem?_toArray, getElem?_cons_zero, getElem?_cons_succ, Option.some.injEq] at ho
      subst ho
      rw [if_pos (by rfl)]
      simp only [put_someC, setIfInBounds_toArray, set_cons_zero, set_cons_succ] at hK
      have h2 : cpP p w.heap.size V.heap.size 2 (vs 2) W := he ⟨2, .data⟩ (by simp) rfl
      have e : vs 2 = .pointer (some ⟨w.heap.size, 1, none⟩) := h2
      rw [e] at hK ⊢
      have HK := Lib.hid hK
      clear hK he hi
      go_simp
      exact HK.out _ _ rfl (Below.refl _ _)
    · simp only [getElem?_toArray, getElem?_cons_zero, getElem?_cons_succ, Option.some.injEq] at ho
      subst ho
      rw [if_pos (by rfl)]
      simp only [put_someC, setIfInBounds_toArray, set_cons_zero, set_cons_succ] at hK
      have HK := Lib.hid hK
      clear hK he hi
      clear c0 c1 c2 c3 c4 c5 c6 c7 c8 c9 c10 c11 c12 c13 c14
      go_simp
      exact HK.out _ _ rfl (Below.refl _ _)
    · simp only [getElem?_toArray, getElem?_cons_zero, getElem?_cons_succ, Option.some.injEq] at ho
      subst ho
      rw [if_pos (by rfl)]
      simp only [put_someC, setIfInBounds_toArray, set_cons_zero, set_cons_succ] at hK
      have h4 : cpP p w.heap.size V.heap.size 4 (vs 4) W := he ⟨4, .data⟩ (by simp) rfl
      have e : vs 4 = .pointer (some ⟨w.heap.size, 4, none⟩) := h4
      rw [e] at hK ⊢
      have HK := Lib.hid hK
      clear hK he hi
      go_simp
      exact HK.out _ _ rfl (Below.refl _ _)
    · simp only [getElem?_toArray, getElem?_cons_zero, getElem?_cons_succ, Option.some.injEq] at ho
      subst ho
      rw [if_pos (by rfl)]
      simp only [put_someC, setIfInBounds_toArray, set_cons_zero, set_cons_succ] at hK
      have HK := Lib.hid hK
      clear hK he hi
      clear c0 c1 c2 c3 c4 c5 c6 c7 c8 c9 c10 c11 c12 c13 c14
      go_simp
      exact HK.out _ _ rfl (Below.refl _ _)
    · simp only [getElem?_toArray, getElem?_cons_zero, getElem?_cons_succ, Option.some.injEq] at ho
      subst ho
      rw [if_pos (by rfl)]
      simp only [put_someC, setIfInBounds_toArray, set_cons_zero, set_cons_succ] at hK
      have h6 : cpP p w.heap.size V.heap.size 6 (vs 6) W := he ⟨6, .data⟩ (by simp) rfl
      have e : vs 6 = .pointer (some ⟨w.heap.size, 5, none⟩) := h6
      rw [e] at hK ⊢
      have HK := Lib.hid hK
      clear hK he hi
      go_simp
      exact HK.out _ _ rfl (Below.refl _ _)
    · simp only [getElem?_toArray, getElem?_cons_zero, getElem?_cons_succ, Option.some.injEq] at ho
      subst ho
      rw [if_pos (by rfl)]
      simp only [put_someC, setIfInBounds_toArray, set_cons_zero, set_cons_succ] at hK
      have HK := Lib.hid hK
      clear hK he hi
      clear c0 c1 c2 c3 c4 c5 c6 c7 c8 c9 c10 c11 c12 c13 c14
      go_simp
      exact HK.out _ _ ⟨W.heap.size, rfl, World.ownsRow_made _ #[] 0 hsz (Nat.zero_le _) rfl⟩ ((Below.refl _ _).alloc (Nat.le_refl _) _)
    · simp only [getElem?_toArray, getElem?_cons_zero, getElem?_cons_succ, Option.some.injEq] at ho
      subst ho
      rw [if_pos (by rfl)]
      simp only [put_someC, setIfInBounds_toArray, set_cons_zero, set_cons_succ] at hK
      have HK := Lib.hid hK
      clear hK he hi
      clear c0 c1 c2 c3 c4 c5 c6 c7 c8 c9 c10 c11 c12 c13 c14
      go_simp
      exact HK.out _ _ rfl (Below.refl _ _)
    · simp only [getElem?_toArray, getElem?_cons_zero, getElem?_cons_succ, Option.some.injEq] at ho
      subst ho
      rw [if_pos (by rfl)]
      simp only [put_someC, setIfInBounds_toArray, set_cons_zero, set_cons_succ] at hK
      have h9 : cpP p w.heap.size V.heap.size 9 (vs 9) W := he ⟨9, .data⟩ (by simp) rfl
      have e : vs 9 = .pointer (some ⟨w.heap.size, 6, none⟩) := h9
      rw [e] at hK ⊢
      have HK := Lib.hid hK
      clear hK he hi
      go_simp
      exact HK.out _ _ rfl (Below.refl _ _)
    · simp only [getElem?_toArray, getElem?_cons_zero, getElem?_cons_succ, Option.some.injEq] at ho
      subst ho
      rw [if_pos (by rfl)]
      simp only [put_someC, setIfInBounds_toArray, set_cons_zero, set_cons_succ] at hK
      have h8 : cpP p w.heap.size V.heap.size 8 (vs 8) W := he ⟨8, .data⟩ (by simp) rfl
      obtain ⟨g, eg, og⟩ := h8
      have h10 : cpP p w.heap.size V.heap.size 10 (vs 10) W := he ⟨10, .data⟩ (by simp) rfl
      have e : vs 10 = .slice p.provA p.prov.length p.provC := h10
      rw [eg] at hK og ⊢
      rw [e] at hK ⊢
      have HK := Lib.hid hK
      clear hK he hi
      clear c0 c1 c2 c3 c4 c5 c6 c7 c8 c9 c10 c11 c12 c13 c14
      refine wp_append_made (P := Tryd.prog) W _ _ 30 rfl V.heap.size 25 _ _ 5 _ (by rfl) (by rfl) (by rfl) (by rfl) (by rfl) (by rfl) (by decide) encD_len encD_one g rfl og w.heap.size p.provA p.provC p.prov _ rfl rfl (HL.out.prov.below (HB2.out.trans (hBW.below2 (by omega) hV))) (HD.out.nprov) (by decide) hsz ?_
      intro v9 w9 ho9 hb9
      obtain ⟨A9, c9, e9⟩ := Own.shape ho9
      subst e9
      exact HK.out _ _ ⟨A9, c9, rfl, ho9⟩ hb9
    · simp only [getElem?_toArray, getElem?_cons_zero, getElem?_cons_succ, Option.some.injEq] at ho
      subst ho
      rw [if_pos (by rfl)]
      simp only [put_someC, setIfInBounds_toArray, set_cons_zero, set_cons_succ] at hK
      have HK := Lib.hid hK
      clear hK he hi
      clear c0 c1 c2 c3 c4 c5 c6 c7 c8 c9 c10 c11 c12 c13 c14
      go_simp
      exact HK.out _ _ rfl (Below.refl _ _)
    · simp only [getElem?_toArray, getElem?_cons_zero, getElem?_cons_succ, Option.some.injEq] at ho
      subst ho
      rw [if_pos (by rfl)]
      simp only [put_someC, setIfInBounds_toArray, set_cons_zero, set_cons_succ] at hK
      have h12 : cpP p w.heap.size V.heap.size 12 (vs 12) W := he ⟨12, .data⟩ (by simp) rfl
      have e : vs 12 = .pointer (some ⟨w.heap.size, 7, none⟩) := h12
      rw [e] at hK ⊢
      have HK := Lib.hid hK
      clear hK he hi
      go_simp
      exact HK.out _ _ rfl (Below.refl _ _)
    · simp only [getElem?_toArray, getElem?_cons_zero, getElem?_cons_succ, Option.some.injEq] at ho
      subst ho
      rw [if_pos (by rfl)]
      simp only [put_someC, setIfInBounds_toArray, set_cons_zero, set_cons_succ] at hK
      have h13 : cpP p w.heap.size V.heap.size 13 (vs 13) W := he ⟨13, .data⟩ (by simp) rfl
      have e : vs 13 = .slice p.reqA p.req.length p.reqC := h13
      rw [e] at hK ⊢
      have HK := Lib.hid hK
      clear hK he hi
      clear c0 c1 c2 c3 c4 c5 c6 c7 c8 c9 c10 c11 c12 c13 c14
      have HR := Lib.hid (((HL.out.req.below (HB2.out.trans (hBW.below2 (by omega) hV))).more (by omega) : RRow W.heap.size W p.reqA p.reqC p.req))
      have HC := Lib.hid (copied_any p.req p.reqA p.reqC W (HD.out.req) HR.out)
      skip
      go_simp
      go_at_call 21
      refine HC.out.mono ?_
      rintro en w9 ⟨A9, c9, l9, rfl, ht9, hcs⟩
      go_simp
      exact HK.out _ _ ⟨A9, c9, l9, rfl, ht9, ROwn.of_CS hcs hsz⟩ hcs.old
    · simp only [getElem?_toArray, getElem?_cons_zero, getElem?_cons_succ, Option.some.injEq] at ho
      subst ho
      rw [if_pos (by rfl)]
      simp only [put_someC, setIfInBounds_toArray, set_cons_zero, set_cons_succ] at hK
      have HK := Lib.hid hK
      clear hK he hi
      clear c0 c1 c2 c3 c4 c5 c6 c7 c8 c9 c10 c11 c12 c13 c14
      go_simp
      exact HK.out _ _ rfl (Below.refl _ _)
    · simp only [getElem?_toArray, getElem?_cons_zero, getElem?_cons_succ, Option.some.injEq] at ho
      subst ho
      rw [if_pos (by rfl)]
      simp only [put_someC, setIfInBounds_toArray, set_cons_zero, set_cons_succ] at hK
      have h15 : cpP p w.heap.size V.heap.size 15 (vs 15) W := he ⟨15, .data⟩ (by simp) rfl
      have e : vs 15 = .pointer (some ⟨w.heap.size, 8, none⟩) := h15
      rw [e] at hK ⊢
      have HK := Lib.hid hK
      clear hK he hi
      go_simp
      exact HK.out _ _ rfl (Below.refl _ _)
    · simp only [getElem?_toArray, getElem?_cons_zero, getElem?_cons_succ, Option.some.injEq] at ho
      subst ho
      rw [if_pos (by rfl)]
      simp only [put_someC, setIfInBounds_toArray, set_cons_zero, set_cons_succ] at hK
      have h16 : cpP p w.heap.size V.heap.size 16 (vs 16) W := he ⟨16, .data⟩ (by simp) rfl
      have e : vs 16 = .slice p.conA p.con.length p.conC := h16
      rw [e] at hK ⊢
      have HK := Lib.hid hK
      clear hK he hi
      clear c0 c1 c2 c3 c4 c5 c6 c7 c8 c9 c10 c11 c12 c13 c14
      have HR := Lib.hid (((HL.out.con.below (HB2.out.trans (hBW.below2 (by omega) hV))).more (by omega) : RRow W.heap.size W p.conA p.conC p.con))
      have HC := Lib.hid (copied_any p.con p.conA p.conC W (HD.out.con) HR.out)
      skip
      go_simp
      go_at_call 21
      refine HC.out.mono ?_
      rintro en w9 ⟨A9, c9, l9, rfl, ht9, hcs⟩
      go_simp
      exact HK.out _ _ ⟨A9, c9, l9, rfl, ht9, ROwn.of_CS hcs hsz⟩ hcs.old
    · simp only [getElem?_toArray, getElem?_cons_zero, getElem?_cons_succ, Option.some.injEq] at ho
      subst ho
      rw [if_pos (by rfl)]
      simp only [put_someC, setIfInBounds_toArray, set_cons_zero, set_cons_succ] at hK
      have HK := Lib.hid hK
      clear hK he hi
      clear c0 c1 c2 c3 c4 c5 c6 c7 c8 c9 c10 c11 c12 c13 c14
      go_simp
      exact HK.out _ _ ⟨W.heap.size, rfl, World.ownsRow_made _ #[] 0 hsz (Nat.zero_le _) rfl⟩ ((Below.refl _ _).alloc (Nat.le_refl _) _)
    · simp only [getElem?_toArray, getElem?_cons_zero, getElem?_cons_succ, Option.some.injEq] at ho
      subst ho
      rw [if_pos (by rfl)]
      simp only [put_someC, setIfInBounds_toArray, set_cons_zero, set_cons_succ] at hK
      have HK := Lib.hid hK
      clear hK he hi
      clear c0 c1 c2 c3 c4 c5 c6 c7 c8 c9 c10 c11 c12 c13 c14
      go_simp
      exact HK.out _ _ rfl (Below.refl _ _)
    · simp only [getElem?_toArray, getElem?_cons_zero, getElem?_cons_succ, Option.some.injEq] at ho
      subst ho
      rw [if_pos (by rfl)]
      simp only [put_someC, setIfInBounds_toArray, set_cons_zero, set_cons_succ] at hK
      have h19 : cpP p w.heap.size V.heap.size 19 (vs 19) W := he ⟨19, .data⟩ (by simp) rfl
      have e : vs 19 = .pointer (some ⟨w.heap.size, 9, none⟩) := h19
      rw [e] at hK ⊢
      have HK := Lib.hid hK
      clear hK he hi
      go_simp
      exact HK.out _ _ rfl (Below.refl _ _)
    · simp only [getElem?_toArray, getElem?_cons_zero, getElem?_cons_succ, Option.some.injEq] at ho
      subst ho
      rw [if_pos (by rfl)]
      simp only [put_someC, setIfInBounds_toArray, set_cons_zero, set_cons_succ] at hK
      have h18 : cpP p w.heap.size V.heap.size 18 (vs 18) W := he ⟨18, .data⟩ (by simp) rfl
      obtain ⟨g, eg, og⟩ := h18
      have h20 : cpP p w.heap.size V.heap.size 20 (vs 20) W := he ⟨20, .data⟩ (by simp) rfl
      have e : vs 20 = .slice p.obsA p.obs.length p.obsC := h20
      rw [eg] at hK og ⊢
      rw [e] at hK ⊢
      have HK := Lib.hid hK
      clear hK he hi
      clear c0 c1 c2 c3 c4 c5 c6 c7 c8 c9 c10 c11 c12 c13 c14
      refine wp_append_made (P := Tryd.prog) W _ _ 30 rfl V.heap.size 25 _ _ 5 _ (by rfl) (by rfl) (by rfl) (by rfl) (by rfl) (by rfl) (by decide) encD_len encD_one g rfl og w.heap.size p.obsA p.obsC p.obs _ rfl rfl (HL.out.obs.below (HB2.out.trans (hBW.below2 (by omega) hV))) (HD.out.nobs) (by decide) hsz ?_
      intro v9 w9 ho9 hb9
      obtain ⟨A9, c9, e9⟩ := Own.shape ho9
      subst e9
      exact HK.out _ _ ⟨A9, c9, rfl, ho9⟩ hb9
    · simp only [getElem?_toArray, getElem?_cons_zero, getElem?_cons_succ, Option.some.injEq] at ho
      subst ho
      rw [if_pos (by rfl)]
      simp only [put_someC, setIfInBounds_toArray, set_cons_zero, set_cons_succ] at hK
      have HK := Lib.hid hK
      clear hK he hi
      clear c0 c1 c2 c3 c4 c5 c6 c7 c8 c9 c10 c11 c12 c13 c14
      go_simp
      exact HK.out _ _ rfl (Below.refl _ _)
    · simp only [getElem?_toArray, getElem?_cons_zero, getElem?_cons_succ, Option.some.injEq] at ho
      subst ho
      rw [if_pos (by rfl)]
      simp only [put_someC, setIfInBounds_toArray, set_cons_zero, set_cons_succ] at hK
      have h22 : cpP p w.heap.size V.heap.size 22 (vs 22) W := he ⟨22, .data⟩ (by simp) rfl
      have e : vs 22 = .pointer (some ⟨w.heap.size, 10, none⟩) := h22
      rw [e] at hK ⊢
      have HK := Lib.hid hK
      clear hK he hi
      go_simp
      exact HK.out _ _ rfl (Below.refl _ _)
    · simp only [getElem?_toArray, getElem?_cons_zero, getElem?_cons_succ, Option.some.injEq] at ho
      subst ho
      rw [if_pos (by rfl)]
      simp only [put_someC, setIfInBounds_toArray, set_cons_zero, set_cons_succ] at hK
      have h23 : cpP p w.heap.size V.heap.size 23 (vs 23) W := he ⟨23, .data⟩ (by simp) rfl
      have e : vs 23 = .slice p.rcmA p.rcm.length p.rcmC := h23
      rw [e] at hK ⊢
      have HK := Lib.hid hK
      clear hK he hi
      clear c0 c1 c2 c3 c4 c5 c6 c7 c8 c9 c10 c11 c12 c13 c14
      have HR := Lib.hid (((HL.out.rcm.below (HB2.out.trans (hBW.below2 (by omega) hV))).more (by omega) : RRow W.heap.size W p.rcmA p.rcmC p.rcm))
      have HC := Lib.hid (copied_any p.rcm p.rcmA p.rcmC W (HD.out.rcm) HR.out)
      skip
      go_simp
      go_at_call 21
      refine HC.out.mono ?_
      rintro en w9 ⟨A9, c9, l9, rfl, ht9, hcs⟩
      go_simp
      exact HK.out _ _ ⟨A9, c9, l9, rfl, ht9, ROwn.of_CS hcs hsz⟩ hcs.old
    · simp only [getElem?_toArray, getElem?_cons_zero, getElem?_cons_succ, Option.some.injEq] at ho
      subst ho
      rw [if_pos (by rfl)]
      simp only [put_someC, setIfInBounds_toArray, set_cons_zero, set_cons_succ] at hK
      have HK := Lib.hid hK
      clear hK he hi
      clear c0 c1 c2 c3 c4 c5 c6 c7 c8 c9 c10 c11 c12 c13 c14
      go_simp
      exact HK.out _ _ rfl (Below.refl _ _)
    · simp only [getElem?_toArray, getElem?_cons_zero, getElem?_cons_succ, Option.some.injEq] at ho
      subst ho
      rw [if_pos (by rfl)]
      simp only [put_someC, setIfInBounds_toArray, set_cons_zero, set_cons_succ] at hK
      have h25 : cpP p w.heap.size V.heap.size 25 (vs 25) W := he ⟨25, .data⟩ (by simp) rfl
      have e : vs 25 = .pointer (some ⟨w.heap.size, 11, none⟩) := h25
      rw [e] at hK ⊢
      have HK := Lib.hid hK
      clear hK he hi
      go_simp
      exact HK.out _ _ rfl (Below.refl _ _)
    · simp only [getElem?_toArray, getElem?_cons_zero, getElem?_cons_succ, Option.some.injEq] at ho
      subst ho
      rw [if_pos (by rfl)]
      simp only [put_someC, setIfInBounds_toArray, set_cons_zero, set_cons_succ] at hK
      have h26 : cpP p w.heap.size V.heap.size 26 (vs 26) W := he ⟨26, .data⟩ (by simp) rfl
      have e : vs 26 = .slice p.supA p.sup.length p.supC := h26
      rw [e] at hK ⊢
      have HK := Lib.hid hK
      clear hK he hi
      clear c0 c1 c2 c3 c4 c5 c6 c7 c8 c9 c10 c11 c12 c13 c14
      have HR := Lib.hid (((HL.out.sup.below (HB2.out.trans (hBW.below2 (by omega) hV))).more (by omega) : RRow W.heap.size W p.supA p.supC p.sup))
      have HC := Lib.hid (copied_any p.sup p.supA p.supC W (HD.out.sup) HR.out)
      skip
      go_simp
      go_at_call 21
      refine HC.out.mono ?_
      rintro en w9 ⟨A9, c9, l9, rfl, ht9, hcs⟩
      go_simp
      exact HK.out _ _ ⟨A9, c9, l9, rfl, ht9, ROwn.of_CS hcs hsz⟩ hcs.old
    · simp only [getElem?_toArray, getElem?_cons_zero, getElem?_cons_succ, Option.some.injEq] at ho
      subst ho
      rw [if_pos (by rfl)]
      simp only [put_someC, setIfInBounds_toArray, set_cons_zero, set_cons_succ] at hK
      have HK := Lib.hid hK
      clear hK he hi
      clear c0 c1 c2 c3 c4 c5 c6 c7 c8 c9 c10 c11 c12 c13 c14
      go_simp
      exact HK.out _ _ rfl (Below.refl _ _)
    · simp only [getElem?_toArray, getElem?_cons_zero, getElem?_cons_succ, Option.some.injEq] at ho
      subst ho
      rw [if_pos (by rfl)]
      simp only [put_someC, setIfInBounds_toArray, set_cons_zero, set_cons_succ] at hK
      have h28 : cpP p w.heap.size V.heap.size 28 (vs 28) W := he ⟨28, .data⟩ (by simp) rfl
      have e : vs 28 = .pointer (some ⟨w.heap.size, 12, none⟩) := h28
      rw [e] at hK ⊢
      have HK := Lib.hid hK
      clear hK he hi
      go_simp
      exact HK.out _ _ rfl (Below.refl _ _)
    · simp only [getElem?_toArray, getElem?_cons_zero, getElem?_cons_succ, Option.some.injEq] at ho
      subst ho
      rw [if_pos (by rfl)]
      simp only [put_someC, setIfInBounds_toArray, set_cons_zero, set_cons_succ] at hK
      have h29 : cpP p w.heap.size V.heap.size 29 (vs 29) W := he ⟨29, .data⟩ (by simp) rfl
      have e : vs 29 = .slice p.sugA p.sug.length p.sugC := h29
      rw [e] at hK ⊢
      have HK := Lib.hid hK
      clear hK he hi
      clear c0 c1 c2 c3 c4 c5 c6 c7 c8 c9 c10 c11 c12 c13 c14
      have HR := Lib.hid (((HL.out.sug.below (HB2.out.trans (hBW.below2 (by omega) hV))).more (by omega) : RRow W.heap.size W p.sugA p.sugC p.sug))
      have HC := Lib.hid (copied_any p.sug p.sugA p.sugC W (HD.out.sug) HR.out)
      skip
      go_simp
      go_at_call 21
      refine HC.out.mono ?_
      rintro en w9 ⟨A9, c9, l9, rfl, ht9, hcs⟩
      go_simp
      exact HK.out _ _ ⟨A9, c9, l9, rfl, ht9, ROwn.of_CS hcs hsz⟩ hcs.old
    · simp only [getElem?_toArray, getElem?_cons_zero, getElem?_cons_succ, Option.some.injEq] at ho
      subst ho
      rw [if_pos (by rfl)]
      simp only [put_someC, setIfInBounds_toArray, set_cons_zero, set_cons_succ] at hK
      have HK := Lib.hid hK
      clear hK he hi
      clear c0 c1 c2 c3 c4 c5 c6 c7 c8 c9 c10 c11 c12 c13 c14
      go_simp
      exact HK.out _ _ rfl (Below.refl _ _)
    · simp only [getElem?_toArray, getElem?_cons_zero, getElem?_cons_succ, Option.some.injEq] at ho
      subst ho
      rw [if_pos (by rfl)]
      simp only [put_someC, setIfInBounds_toArray, set_cons_zero, set_cons_succ] at hK
      have h31 : cpP p w.heap.size V.heap.size 31 (vs 31) W := he ⟨31, .data⟩ (by simp) rfl
      have e : vs 31 = .pointer (some ⟨w.heap.size, 13, none⟩) := h31
      rw [e] at hK ⊢
      have HK := Lib.hid hK
      clear hK he hi
      go_simp
      exact HK.out _ _ rfl (Below.refl _ _)
    · simp only [getElem?_toArray, getElem?_cons_zero, getElem?_cons_succ, Option.some.injEq] at ho
      subst ho
      rw [if_pos (by rfl)]
      simp only [put_someC, setIfInBounds_toArray, set_cons_zero, set_cons_succ] at hK
      have h32 : cpP p w.heap.size V.heap.size 32 (vs 32) W := he ⟨32, .data⟩ (by simp) rfl
      have e : vs 32 = .slice p.enhA p.enh.length p.enhC := h32
      rw [e] at hK ⊢
      have HK := Lib.hid hK
      clear hK he hi
      clear c0 c1 c2 c3 c4 c5 c6 c7 c8 c9 c10 c11 c12 c13 c14
      have HR := Lib.hid (((HL.out.enh.below (HB2.out.trans (hBW.below2 (by omega) hV))).more (by omega) : RRow W.heap.size W p.enhA p.enhC p.enh))
      have HC := Lib.hid (copied_any p.enh p.enhA p.enhC W (HD.out.enh) HR.out)
      skip
      go_simp
      go_at_call 21
      refine HC.out.mono ?_
      rintro en w9 ⟨A9, c9, l9, rfl, ht9, hcs⟩
      go_simp
      exact HK.out _ _ ⟨A9, c9, l9, rfl, ht9, ROwn.of_CS hcs hsz⟩ hcs.old
    · simp only [getElem?_toArray, getElem?_cons_zero, getElem?_cons_succ, Option.some.injEq] at ho
      subst ho
      rw [if_pos (by rfl)]
      simp only [put_someC, setIfInBounds_toArray, set_cons_zero, set_cons_succ] at hK
      have HK := Lib.hid hK
      clear hK he hi
      clear c0 c1 c2 c3 c4 c5 c6 c7 c8 c9 c10 c11 c12 c13 c14
      go_simp
      exact HK.out _ _ ⟨W.heap.size, rfl, World.ownsRow_made _ #[] 0 hsz (Nat.zero_le _) rfl⟩ ((Below.refl _ _).alloc (Nat.le_refl _) _)
    · simp only [getElem?_toArray, getElem?_cons_zero, getElem?_cons_succ, Option.some.injEq] at ho
      subst ho
      rw [if_pos (by rfl)]
      simp only [put_someC, setIfInBounds_toArray, set_cons_zero, set_cons_succ] at hK
      have HK := Lib.hid hK
      clear hK he hi
      clear c0 c1 c2 c3 c4 c5 c6 c7 c8 c9 c10 c11 c12 c13 c14
      go_simp
      exact HK.out _ _ rfl (Below.refl _ _)
    · simp only [getElem?_toArray, getElem?_cons_zero, getElem?_cons_succ, Option.some.injEq] at ho
      subst ho
      rw [if_pos (by rfl)]
      simp only [put_someC, setIfInBounds_toArray, set_cons_zero, set_cons_succ] at hK
      have h35 : cpP p w.heap.size V.heap.size 35 (vs 35) W := he ⟨35, .data⟩ (by simp) rfl
      have e : vs 35 = .pointer (some ⟨w.heap.size, 14, none⟩) := h35
      rw [e] at hK ⊢
      have HK := Lib.hid hK
      clear hK he hi
      go_simp
      exact HK.out _ _ rfl (Below.refl _ _)
    · simp only [getElem?_toArray, getElem?_cons_zero, getElem?_cons_succ, Option.some.injEq] at ho
      subst ho
      rw [if_pos (by rfl)]
      simp only [put_someC, setIfInBounds_toArray, set_cons_zero, set_cons_succ] at hK
      have h34 : cpP p w.heap.size V.heap.size 34 (vs 34) W := he ⟨34, .data⟩ (by simp) rfl
      obtain ⟨g, eg, og⟩ := h34
      have h36 : cpP p w.heap.size V.heap.size 36 (vs 36) W := he ⟨36, .data⟩ (by simp) rfl
      have e : vs 36 = .slice p.filesA p.files.length p.filesC := h36
      rw [eg] at hK og ⊢
      rw [e] at hK ⊢
      have HK := Lib.hid hK
      clear hK he hi
      clear c0 c1 c2 c3 c4 c5 c6 c7 c8 c9 c10 c11 c12 c13 c14
      refine wp_append_made (P := Tryd.prog) W _ _ 31 rfl V.heap.size 9 _ _ 1 _ (by rfl) (by rfl) (by rfl) (by rfl) (by rfl) (by rfl) (by decide) encT1_len encT1_one g rfl og w.heap.size p.filesA p.filesC p.files _ rfl rfl (HL.out.files.below (HB2.out.trans (hBW.below2 (by omega) hV))) (HD.out.nfiles) (by decide) hsz ?_
      intro v9 w9 ho9 hb9
      obtain ⟨A9, c9, e9⟩ := Own.shape ho9
      subst e9
      exact HK.out _ _ ⟨A9, c9, rfl, ho9⟩ hb9
    · simp only [getElem?_toArray, getElem?_cons_zero, getElem?_cons_succ, Option.some.injEq] at ho
      subst ho
      rw [if_pos (by rfl)]
      simp only [put_someC, setIfInBounds_toArray, set_cons_zero, set_cons_succ] at hK
      have h1 : cpP p w.heap.size V.heap.size 1 (vs 1) W := he ⟨1, .data⟩ (by simp) rfl
      have e1 : vs 1 = .string p.name := h1
      rw [e1] at hK ⊢
      have h3 : cpP p w.heap.size V.heap.size 3 (vs 3) W := he ⟨3, .data⟩ (by simp) rfl
      have e3 : vs 3 = .agg #[.int .i64 p.epoch, .string p.ver, .string p.rel] := h3
      rw [e3] at hK ⊢
      have h5 : cpP p w.heap.size V.heap.size 5 (vs 5) W := he ⟨5, .data⟩ (by simp) rfl
      have e5 : vs 5 = .int .u8 p.arch := h5
      rw [e5] at hK ⊢
      have h7 : cpP p w.heap.size V.heap.size 7 (vs 7) W := he ⟨7, .data⟩ (by simp) rfl
      have e7 : vs 7 = .string p.vendor := h7
      rw [e7] at hK ⊢
      have h11 : cpP p w.heap.size V.heap.size 11 (vs 11) W := he ⟨11, .data⟩ (by simp) rfl
      obtain ⟨A11, k11, e11, o11⟩ := h11
      rw [e11] at hK o11 ⊢
      have h14 : cpP p w.heap.size V.heap.size 14 (vs 14) W := he ⟨14, .data⟩ (by simp) rfl
      obtain ⟨A14, k14, l14, e14, t14, o14⟩ := h14
      rw [e14] at hK o14 ⊢
      have h17 : cpP p w.heap.size V.heap.size 17 (vs 17) W := he ⟨17, .data⟩ (by simp) rfl
      obtain ⟨A17, k17, l17, e17, t17, o17⟩ := h17
      rw [e17] at hK o17 ⊢
      have h21 : cpP p w.heap.size V.heap.size 21 (vs 21) W := he ⟨21, .data⟩ (by simp) rfl
      obtain ⟨A21, k21, e21, o21⟩ := h21
      rw [e21] at hK o21 ⊢
      have h24 : cpP p w.heap.size V.heap.size 24 (vs 24) W := he ⟨24, .data⟩ (by simp) rfl
      obtain ⟨A24, k24, l24, e24, t24, o24⟩ := h24
      rw [e24] at hK o24 ⊢
      have h27 : cpP p w.heap.size V.heap.size 27 (vs 27) W := he ⟨27, .data⟩ (by simp) rfl
      obtain ⟨A27, k27, l27, e27, t27, o27⟩ := h27
      rw [e27] at hK o27 ⊢
      have h30 : cpP p w.heap.size V.heap.size 30 (vs 30) W := he ⟨30, .data⟩ (by simp) rfl
      obtain ⟨A30, k30, l30, e30, t30, o30⟩ := h30
      rw [e30] at hK o30 ⊢
      have h33 : cpP p w.heap.size V.heap.size 33 (vs 33) W := he ⟨33, .data⟩ (by simp) rfl
      obtain ⟨A33, k33, l33, e33, t33, o33⟩ := h33
      rw [e33] at hK o33 ⊢
      have h37 : cpP p w.heap.size V.heap.size 37 (vs 37) W := he ⟨37, .data⟩ (by simp) rfl
      obtain ⟨A37, k37, e37, o37⟩ := h37
      rw [e37] at hK o37 ⊢
      have HF := Lib.hid (show ∃ q : Pk, (.agg #[.string p.name, .int .i64 p.epoch, .string p.ver, .string p.rel, .int .u8 p.arch, .string p.vendor, .slice A11 p.prov.length k11, .slice A14 l14.length k14, .slice A17 l17.length k17, .slice A21 p.obs.length k21, .slice A24 l24.length k24, .slice A27 l27.length k27, .slice A30 l30.length k30, .slice A33 l33.length k33, .slice A37 p.files.length k37] : Value) = q.val ∧ Alike p q ∧ PkOwn V.heap.size q W from
        ⟨{ name := p.name, epoch := p.epoch, ver := p.ver, rel := p.rel, arch := p.arch, vendor := p.vendor, provA := A11, provC := k11, prov := p.prov, reqA := A14, reqC := k14, req := l14, conA := A17, conC := k17, con := l17, obsA := A21, obsC := k21, obs := p.obs, rcmA := A24, rcmC := k24, rcm := l24, supA := A27, supC := k27, sup := l27, sugA := A30, sugC := k30, sug := l30, enhA := A33, enhC := k33, enh := l33, filesA := A37, filesC := k37, files := p.files }, rfl, ⟨rfl, rfl, rfl, rfl, rfl, rfl, rfl, rfl, rfl, t14, t17, t24, t27, t30, t33⟩, ⟨o11, o21, o37, o14, o17, o24, o27, o30, o33⟩⟩)
      have HK := Lib.hid hK
      clear hK he hi
      clear c0 c1 c2 c3 c4 c5 c6 c7 c8 c9 c10 c11 c12 c13 c14 o11 o14 o17 o21 o24 o27 o30 o33 o37
      go_simp
      exact HK.out _ _ HF.out (Below.refl _ _)
  · intro o vs W ⟨q0, hq0⟩ ho he hBW K hK
    simp only [fillV, put_someC, put_noneC, setIfInBounds_toArray, set_cons_zero, set_cons_succ] at hK ⊢
    simp only [getElem?_toArray, getElem?_cons_zero, getElem?_cons_succ, Option.some.injEq] at ho
    subst ho
    rw [if_pos (by rfl)]
    have h38 : cpP p w.heap.size V.heap.size 38 (vs 38) W := he ⟨38, .data⟩ (by simp) rfl
    obtain ⟨q, e, ha, hq⟩ := h38
    rw [e] at hK ⊢
    have HF := Lib.hid (show ∃ q' : Pk, Box15 (w.heap.size + 1) q' (setL (w.heap.size + 1) 0 q.cells W) ∧ Alike p q' ∧ PkOwn V.heap.size q' (setL (w.heap.size + 1) 0 q.cells W) from ⟨q, hq0.set q, ha, hq.butR (setL_butR _ _ _ _) hV⟩)
    have HK := Lib.hid hK
    have HS := Lib.hid (setL_butR (w.heap.size + 1) q.cells 0 W)
    obtain ⟨⟨_, c0, c1, c2, c3, c4, c5, c6, c7, c8, c9, c10, c11, c12, c13, c14⟩, fz, _⟩ := hq0
    have f0 := fz 0 (by omega)
    have f1 := fz 1 (by omega)
    have f2 := fz 2 (by omega)
    have f3 := fz 3 (by omega)
    have f4 := fz 4 (by omega)
    have f5 := fz 5 (by omega)
    have f6 := fz 6 (by omega)
    have f7 := fz 7 (by omega)
    have f8 := fz 8 (by omega)
    have f9 := fz 9 (by omega)
    have f10 := fz 10 (by omega)
    have f11 := fz 11 (by omega)
    have f12 := fz 12 (by omega)
    have f13 := fz 13 (by omega)
    have f14 := fz 14 (by omega)
    clear hK he ha hq fz e
    unfold Pk.val
    unfold Pk.cells at HF HS
    go_simp
    exact HK.out _ HF.out HS.out
  · intro vs W hF hBW
    obtain ⟨q, hbx, ha, hq⟩ := hF
    simp only [fillV, put_someC, put_noneC, setIfInBounds_toArray, set_cons_zero, set_cons_succ]
    obtain ⟨⟨_, c0, c1, c2, c3, c4, c5, c6, c7, c8, c9, c10, c11, c12, c13, c14⟩, _, _⟩ := hbx
    have HR := Lib.hid (hs2.out ▸ hq)
    have HB := Lib.hid (HB2.out.trans (hBW.below2 (by omega) hV))
    clear hq hBW
    go_wp2_with fail
    refine bodyPost_ret (v := q.val) (by simp [results, Tryd.results7, go_sem, c0, c1, c2, c3, c4, c5, c6, c7, c8, c9, c10, c11, c12, c13, c14]; rfl) rfl ?_
    exact ⟨q, rfl, ha, HR.out, HB.out⟩
end Go.Proofs.YtcpjignlhlcnpaaDoor
