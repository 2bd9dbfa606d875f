/- PkNmM -/
import Derived.Test.YtcpjignlhlcnpaaDoorPkgNamesRowG30
import Derived.Test.YtcpjignlhlcnpaaDoorPkgNamesRowG38
import Derived.Test.YtcpjignlhlcnpaaDoorPkgNamesRowG41
set_option linter.unusedSimpArgs false
set_option linter.unusedVariables false
/- PkgNames: a package and what of it lies where, while single things of it are written. -/



namespace Go.Proofs.YtcpjignlhlcnpaaDoor
open Go.RowKit Go.Shelf
set_option linter.unusedVariables false

/-- a rich dependency's box -/
def RBn (b : Nat) (R : RV) (W : World) : Prop := b < W.heap.size ∧ W.cell? ⟨b, 0, none⟩ = some (.int .u8 R.kind) ∧ W.cell? ⟨b, 1, none⟩ = some (.string (bs R.dep.name)) ∧ W.cell? ⟨b, 2, none⟩ = some (.int .u8 R.dep.op) ∧ W.cell? ⟨b, 3, none⟩ = some (.int .i64 R.dep.evr.epoch) ∧ W.cell? ⟨b, 4, none⟩ = some (.string (bs R.dep.evr.ver)) ∧ W.cell? ⟨b, 5, none⟩ = some (.string (bs R.dep.evr.rel)) ∧ W.cell? ⟨b, 6, none⟩ = some (.slice R.addr R.args.length R.cap)
theorem RBn.then {b : Nat} {R : RV} {W W' : World} (h : RBn b R W) (hb : Below W.heap.size W W') : RBn b R W' := by
  obtain ⟨hl, c0, c1, c2, c3, c4, c5, c6⟩ := h
  exact ⟨Nat.lt_of_lt_of_le hl hb.size, (hb.cell (p := ⟨b, 0, none⟩) hl).trans c0, (hb.cell (p := ⟨b, 1, none⟩) hl).trans c1, (hb.cell (p := ⟨b, 2, none⟩) hl).trans c2, (hb.cell (p := ⟨b, 3, none⟩) hl).trans c3, (hb.cell (p := ⟨b, 4, none⟩) hl).trans c4, (hb.cell (p := ⟨b, 5, none⟩) hl).trans c5, (hb.cell (p := ⟨b, 6, none⟩) hl).trans c6⟩
/-- nothing is turned in the blocks that are not X's -/
structure Kept (X : Nat → Prop) (W W' : World) : Prop where
  size : W.heap.size ≤ W'.heap.size
  block : ∀ b, b < W.heap.size → ¬ X b → W'.heap[b]? = W.heap[b]?
theorem Kept.of {X : Nat → Prop} {W W' : World} (h : Below W.heap.size W W') : Kept X W W' := ⟨h.size, fun b hb _ => h.block b hb⟩
theorem Kept.set {X : Nat → Prop} {W : World} {cb : Nat} (hx : X cb) (o : Nat) (v : Value) : Kept X W (W.setCell ⟨cb, o, none⟩ v) :=
  ⟨by simp [World.setCell], fun b _ hb => by
    have hne : b ≠ cb := fun e => hb (e ▸ hx)
    simp [World.setCell, Array.getElem?_modify, Ne.symm hne]⟩
section
variable {α : Type} {enc : α → List Value} {size : Nat} {X : Nat → Prop} {A : Option Addr} {c : Nat} {l : List α} {W W' : World}
structure RdS {α : Type} (enc : α → List Value) (size : Nat) (X : Nat → Prop) (A : Option Addr) (c : Nat) (l : List α) (W : World) : Prop where
  rd : Rd enc size W.heap.size A c l W
  ne : ∀ b o, A = some ⟨b, o, none⟩ → l ≠ [] → ¬ X b
theorem RdS.keep (h : RdS enc size X A c l W) (k : Kept X W W') : RdS enc size X A c l W' := by
  refine ⟨⟨h.rd.1, h.rd.2.1, fun j hj => ?_⟩, h.ne⟩
  obtain ⟨b, o, e, hb, hc⟩ := h.rd.2.2 j hj
  have hx := h.ne b o e (fun e2 => by rw [e2] at hj; exact absurd hj (Nat.not_lt_zero _))
  exact ⟨b, o, e, Nat.lt_of_lt_of_le hb k.size, fun i u hu => (World.cell?_of_block (w := W) (k.block b hb hx)).trans (hc i u hu)⟩
theorem RdS.none_ : RdS enc size X none 0 [] W := ⟨Rd.nil_ (Nat.zero_le _), fun _ _ e _ => by cases e⟩
theorem RdS.of {B : Nat} (h : Rd enc size B A c l W) (hB : B ≤ W.heap.size) (hX : ∀ b, b < B → ¬ X b) : RdS enc size X A c l W :=
  ⟨h.more hB, fun b o e hl => by
    obtain ⟨b', o', e', hb, _⟩ := h.2.2 0 (List.length_pos_iff.2 hl)
    rw [e] at e'; cases e'; exact hX b hb⟩
end
def TS (X : Nat → Prop) (W : World) (t : RV) : Prop := TQ (fun b => ¬ X b ∧ b < W.heap.size) W t
theorem TS.keep {X : Nat → Prop} {W W' : World} {t : RV} (h : TS X W t) (k : Kept X W W') : TS X W' t := TQ.keep h (fun b hb => ⟨hb.1, Nat.lt_of_lt_of_le hb.2 k.size⟩) (fun b hb => k.block b hb.2 hb.1)
theorem TS.rtree {X : Nat → Prop} {W : World} {t : RV} (h : TS X W t) : RTree W.heap.size W t := TQ.rtree h fun b hb => hb.2
theorem TS.of {X : Nat → Prop} {W : World} {B : Nat} {t : RV} (h : RTree B W t) (hB : B ≤ W.heap.size) (hX : ∀ b, b < B → ¬ X b) : TS X W t := by
  induction h with
  | mk hw hr _ ih =>
    refine .mk hw hr.1 hr.2.1 (fun k hk => ?_) ih
    obtain ⟨b, o, e, hb, hc⟩ := hr.2.2 k hk
    exact ⟨b, o, e, ⟨hX b hb, Nat.lt_of_lt_of_le hb hB⟩, hc⟩
def RRS (X : Nat → Prop) (A : Option Addr) (c : Nat) (l : List RV) (W : World) : Prop := RdS encR 7 X A c l W ∧ ∀ t ∈ l, TS X W t
theorem RRS.keep {X : Nat → Prop} {A : Option Addr} {c : Nat} {l : List RV} {W W' : World} (h : RRS X A c l W) (k : Kept X W W') : RRS X A c l W' := ⟨h.1.keep k, fun t ht => (h.2 t ht).keep k⟩
theorem RRS.row {X : Nat → Prop} {A : Option Addr} {c : Nat} {l : List RV} {W : World} (h : RRS X A c l W) : RRow W.heap.size W A c l := ⟨h.1.rd, fun t ht => (h.2 t ht).rtree⟩
theorem RRS.none_ {X : Nat → Prop} {W : World} : RRS X none 0 [] W := ⟨.none_, fun t ht => by cases ht⟩
theorem RRS.of {X : Nat → Prop} {A : Option Addr} {c : Nat} {l : List RV} {W : World} {B : Nat} (h : RRow B W A c l) (hB : B ≤ W.heap.size) (hX : ∀ b, b < B → ¬ X b) : RRS X A c l W := ⟨.of h.1 hB hX, fun t ht => .of (h.2 t ht) hB hX⟩
/-- a package none of whose rows lies in a block of X -/
structure LaidS (X : Nat → Prop) (q : Pk) (W : World) : Prop where
  ar : (Lit.int .u8 q.arch).wf = true
  ep : (Lit.int .i64 q.epoch).wf = true
  n0 : q.name.size ≤ maxLen
  n1 : q.ver.size ≤ maxLen
  n2 : q.rel.size ≤ maxLen
  n3 : q.vendor.size ≤ maxLen
  prov : RdS encD 5 X q.provA q.provC q.prov W
  provW : ∀ d ∈ q.prov, d.wf
  obs : RdS encD 5 X q.obsA q.obsC q.obs W
  obsW : ∀ d ∈ q.obs, d.wf
  files : RdS encT1 1 X q.filesA q.filesC q.files W
  filesW : ∀ s ∈ q.files, s.size ≤ maxLen
  req : RRS X q.reqA q.reqC q.req W
  con : RRS X q.conA q.conC q.con W
  rcm : RRS X q.rcmA q.rcmC q.rcm W
  sup : RRS X q.supA q.supC q.sup W
  sug : RRS X q.sugA q.sugC q.sug W
  enh : RRS X q.enhA q.enhC q.enh W
section
variable {X : Nat → Prop} {q : Pk} {W W' : World}
theorem LaidS.keep (h : LaidS X q W) (k : Kept X W W') : LaidS X q W' :=
  { h with prov := h.prov.keep k, obs := h.obs.keep k, files := h.files.keep k, req := h.req.keep k, con := h.con.keep k, rcm := h.rcm.keep k, sup := h.sup.keep k, sug := h.sug.keep k, enh := h.enh.keep k }
theorem LaidS.laid (h : LaidS X q W) : q.Laid W.heap.size W :=
  { ar := h.ar, ep := h.ep, n0 := h.n0, n1 := h.n1, n2 := h.n2, n3 := h.n3, prov := h.prov.rd, provW := h.provW, obs := h.obs.rd, obsW := h.obsW, files := h.files.rd, filesW := h.filesW, req := h.req.row, con := h.con.row, rcm := h.rcm.row, sup := h.sup.row, sug := h.sug.row, enh := h.enh.row }
theorem LaidS.of {B : Nat} (h : q.Laid B W) (hB : B ≤ W.heap.size) (hX : ∀ b, b < B → ¬ X b) : LaidS X q W :=
  { ar := h.ar, ep := h.ep, n0 := h.n0, n1 := h.n1, n2 := h.n2, n3 := h.n3, prov := .of h.prov hB hX, provW := h.provW, obs := .of h.obs hB hX, obsW := h.obsW, files := .of (enc := encT1) h.files hB hX, filesW := h.filesW, req := .of h.req hB hX, con := .of h.con hB hX, rcm := .of h.rcm hB hX, sup := .of h.sup hB hX, sug := .of h.sug hB hX, enh := .of h.enh hB hX }
end
theorem Box15.set_name {cb : Nat} {q : Pk} {W : World} (h : Box15 cb q W) (x : ByteArray) : Box15 cb { q with name := x } (W.setCell ⟨cb, 0, none⟩ (.string x)) := by
  obtain ⟨⟨hl, c0, c1, c2, c3, c4, c5, c6, c7, c8, c9, c10, c11, c12, c13, c14⟩, hf, _⟩ := h
  have hz : cb < (W.setCell ⟨cb, 0, none⟩ (.string x)).heap.size := by simpa [World.setCell] using hl
  exact ⟨⟨hz, sc_same c0, (sc_other (by simp)).trans c1, (sc_other (by simp)).trans c2, (sc_other (by simp)).trans c3, (sc_other (by simp)).trans c4, (sc_other (by simp)).trans c5, (sc_other (by simp)).trans c6, (sc_other (by simp)).trans c7, (sc_other (by simp)).trans c8, (sc_other (by simp)).trans c9, (sc_other (by simp)).trans c10, (sc_other (by simp)).trans c11, (sc_other (by simp)).trans c12, (sc_other (by simp)).trans c13, (sc_other (by simp)).trans c14⟩, fun i hi => by rw [World.frozen?_setCell]; exact hf i hi, hz⟩
theorem Box15.set_epoch {cb : Nat} {q : Pk} {W : World} (h : Box15 cb q W) (x : Int) : Box15 cb { q with epoch := x } (W.setCell ⟨cb, 1, none⟩ (.int .i64 x)) := by
  obtain ⟨⟨hl, c0, c1, c2, c3, c4, c5, c6, c7, c8, c9, c10, c11, c12, c13, c14⟩, hf, _⟩ := h
  have hz : cb < (W.setCell ⟨cb, 1, none⟩ (.int .i64 x)).heap.size := by simpa [World.setCell] using hl
  exact ⟨⟨hz, (sc_other (by simp)).trans c0, sc_same c1, (sc_other (by simp)).trans c2, (sc_other (by simp)).trans c3, (sc_other (by simp)).trans c4, (sc_other (by simp)).trans c5, (sc_other (by simp)).trans c6, (sc_other (by simp)).trans c7, (sc_other (by simp)).trans c8, (sc_other (by simp)).trans c9, (sc_other (by simp)).trans c10, (sc_other (by simp)).trans c11, (sc_other (by simp)).trans c12, (sc_other (by simp)).trans c13, (sc_other (by simp)).trans c14⟩, fun i hi => by rw [World.frozen?_setCell]; exact hf i hi, hz⟩
theorem Box15.set_ver {cb : Nat} {q : Pk} {W : World} (h : Box15 cb q W) (x : ByteArray) : Box15 cb { q with ver := x } (W.setCell ⟨cb, 2, none⟩ (.string x)) := by
  obtain ⟨⟨hl, c0, c1, c2, c3, c4, c5, c6, c7, c8, c9, c10, c11, c12, c13, c14⟩, hf, _⟩ := h
  have hz : cb < (W.setCell ⟨cb, 2, none⟩ (.string x)).heap.size := by simpa [World.setCell] using hl
  exact ⟨⟨hz, (sc_other (by simp)).trans c0, (sc_other (by simp)).trans c1, sc_same c2, (sc_other (by simp)).trans c3, (sc_other (by simp)).trans c4, (sc_other (by simp)).trans c5, (sc_other (by simp)).trans c6, (sc_other (by simp)).trans c7, (sc_other (by simp)).trans c8, (sc_other (by simp)).trans c9, (sc_other (by simp)).trans c10, (sc_other (by simp)).trans c11, (sc_other (by simp)).trans c12, (sc_other (by simp)).trans c13, (sc_other (by simp)).trans c14⟩, fun i hi => by rw [World.frozen?_setCell]; exact hf i hi, hz⟩
theorem Box15.set_rel {cb : Nat} {q : Pk} {W : World} (h : Box15 cb q W) (x : ByteArray) : Box15 cb { q with rel := x } (W.setCell ⟨cb, 3, none⟩ (.string x)) := by
  obtain ⟨⟨hl, c0, c1, c2, c3, c4, c5, c6, c7, c8, c9, c10, c11, c12, c13, c14⟩, hf, _⟩ := h
  have hz : cb < (W.setCell ⟨cb, 3, none⟩ (.string x)).heap.size := by simpa [World.setCell] using hl
  exact ⟨⟨hz, (sc_other (by simp)).trans c0, (sc_other (by simp)).trans c1, (sc_other (by simp)).trans c2, sc_same c3, (sc_other (by simp)).trans c4, (sc_other (by simp)).trans c5, (sc_other (by simp)).trans c6, (sc_other (by simp)).trans c7, (sc_other (by simp)).trans c8, (sc_other (by simp)).trans c9, (sc_other (by simp)).trans c10, (sc_other (by simp)).trans c11, (sc_other (by simp)).trans c12, (sc_other (by simp)).trans c13, (sc_other (by simp)).trans c14⟩, fun i hi => by rw [World.frozen?_setCell]; exact hf i hi, hz⟩
theorem Box15.set_arch {cb : Nat} {q : Pk} {W : World} (h : Box15 cb q W) (x : Int) : Box15 cb { q with arch := x } (W.setCell ⟨cb, 4, none⟩ (.int .u8 x)) := by
  obtain ⟨⟨hl, c0, c1, c2, c3, c4, c5, c6, c7, c8, c9, c10, c11, c12, c13, c14⟩, hf, _⟩ := h
  have hz : cb < (W.setCell ⟨cb, 4, none⟩ (.int .u8 x)).heap.size := by simpa [World.setCell] using hl
  exact ⟨⟨hz, (sc_other (by simp)).trans c0, (sc_other (by simp)).trans c1, (sc_other (by simp)).trans c2, (sc_other (by simp)).trans c3, sc_same c4, (sc_other (by simp)).trans c5, (sc_other (by simp)).trans c6, (sc_other (by simp)).trans c7, (sc_other (by simp)).trans c8, (sc_other (by simp)).trans c9, (sc_other (by simp)).trans c10, (sc_other (by simp)).trans c11, (sc_other (by simp)).trans c12, (sc_other (by simp)).trans c13, (sc_other (by simp)).trans c14⟩, fun i hi => by rw [World.frozen?_setCell]; exact hf i hi, hz⟩
theorem Box15.set_vendor {cb : Nat} {q : Pk} {W : World} (h : Box15 cb q W) (x : ByteArray) : Box15 cb { q with vendor := x } (W.setCell ⟨cb, 5, none⟩ (.string x)) := by
  obtain ⟨⟨hl, c0, c1, c2, c3, c4, c5, c6, c7, c8, c9, c10, c11, c12, c13, c14⟩, hf, _⟩ := h
  have hz : cb < (W.setCell ⟨cb, 5, none⟩ (.string x)).heap.size := by simpa [World.setCell] using hl
  exact ⟨⟨hz, (sc_other (by simp)).trans c0, (sc_other (by simp)).trans c1, (sc_other (by simp)).trans c2, (sc_other (by simp)).trans c3, (sc_other (by simp)).trans c4, sc_same c5, (sc_other (by simp)).trans c6, (sc_other (by simp)).trans c7, (sc_other (by simp)).trans c8, (sc_other (by simp)).trans c9, (sc_other (by simp)).trans c10, (sc_other (by simp)).trans c11, (sc_other (by simp)).trans c12, (sc_other (by simp)).trans c13, (sc_other (by simp)).trans c14⟩, fun i hi => by rw [World.frozen?_setCell]; exact hf i hi, hz⟩
/-- without its Provides (they are told of by themselves) -/
def Pk.np (q : Pk) : Pk := { q with provA := none, provC := 0, prov := [] }
/-- a package's box, and its rows but Provides, while it is written -/
structure NmP (X : Nat → Prop) (b : Nat) (q : Pk) (wr W : World) : Prop where
  old : Below wr.heap.size wr W
  ge : wr.heap.size ≤ b
  xb : X b
  box : Box15 b q W
  laid : LaidS X q.np W
section
variable {X : Nat → Prop} {b : Nat} {q : Pk} {wr W W' : World}
theorem NmP.then (h : NmP X b q wr W) (hb : Below W.heap.size W W') : NmP X b q wr W' := ⟨h.old.trans (hb.mono h.old.size), h.ge, h.xb, h.box.then hb, h.laid.keep (.of hb)⟩
theorem NmP.put {q' : Pk} {o : Nat} {v : Value} (h : NmP X b q wr W) (hb : Box15 b q' (W.setCell ⟨b, o, none⟩ v)) (hl : LaidS X q'.np (W.setCell ⟨b, o, none⟩ v)) : NmP X b q' wr (W.setCell ⟨b, o, none⟩ v) :=
  ⟨h.old.setCell (p := ⟨b, o, none⟩) h.ge v, h.ge, h.xb, hb, hl⟩
theorem NmP.all (h : NmP X b q wr W) (hp : Rd encD 5 W.heap.size q.provA q.provC q.prov W) (hw : ∀ d ∈ q.prov, d.wf) : q.Laid W.heap.size W := { h.laid.laid with prov := hp, provW := hw }
theorem NmP.name (h : NmP X b q wr W) (x : ByteArray) (hx : x.size ≤ maxLen) : NmP X b { q with name := x } wr (W.setCell ⟨b, 0, none⟩ (.string x)) := h.put (h.box.set_name x) { h.laid.keep (.set h.xb _ _) with n0 := hx }
theorem NmP.epoch (h : NmP X b q wr W) (x : Int) (hx : (Lit.int .i64 x).wf = true) : NmP X b { q with epoch := x } wr (W.setCell ⟨b, 1, none⟩ (.int .i64 x)) := h.put (h.box.set_epoch x) { h.laid.keep (.set h.xb _ _) with ep := hx }
theorem NmP.rel (h : NmP X b q wr W) (x : ByteArray) (hx : x.size ≤ maxLen) : NmP X b { q with rel := x } wr (W.setCell ⟨b, 3, none⟩ (.string x)) := h.put (h.box.set_rel x) { h.laid.keep (.set h.xb _ _) with n2 := hx }
theorem NmP.arch (h : NmP X b q wr W) (x : Int) (hx : (Lit.int .u8 x).wf = true) : NmP X b { q with arch := x } wr (W.setCell ⟨b, 4, none⟩ (.int .u8 x)) := h.put (h.box.set_arch x) { h.laid.keep (.set h.xb _ _) with ar := hx }
theorem NmP.vendor (h : NmP X b q wr W) (x : ByteArray) (hx : x.size ≤ maxLen) : NmP X b { q with vendor := x } wr (W.setCell ⟨b, 5, none⟩ (.string x)) := h.put (h.box.set_vendor x) { h.laid.keep (.set h.xb _ _) with n3 := hx }
theorem NmP.req {A : Option Addr} {c : Nat} {l : List RV} (h : NmP X b q wr W) (hr : RRS X A c l W) : NmP X b { q with reqA := A, reqC := c, req := l } wr (W.setCell ⟨b, 7, none⟩ (.slice A l.length c)) := h.put (h.box.set_req A c l) { h.laid.keep (.set h.xb _ _) with req := hr.keep (.set h.xb _ _) }
theorem NmP.con {A : Option Addr} {c : Nat} {l : List RV} (h : NmP X b q wr W) (hr : RRS X A c l W) : NmP X b { q with conA := A, conC := c, con := l } wr (W.setCell ⟨b, 8, none⟩ (.slice A l.length c)) := h.put (h.box.set_con A c l) { h.laid.keep (.set h.xb _ _) with con := hr.keep (.set h.xb _ _) }
theorem NmP.rcm {A : Option Addr} {c : Nat} {l : List RV} (h : NmP X b q wr W) (hr : RRS X A c l W) : NmP X b { q with rcmA := A, rcmC := c, rcm := l } wr (W.setCell ⟨b, 10, none⟩ (.slice A l.length c)) := h.put (h.box.set_rcm A c l) { h.laid.keep (.set h.xb _ _) with rcm := hr.keep (.set h.xb _ _) }
theorem NmP.sup {A : Option Addr} {c : Nat} {l : List RV} (h : NmP X b q wr W) (hr : RRS X A c l W) : NmP X b { q with supA := A, supC := c, sup := l } wr (W.setCell ⟨b, 11, none⟩ (.slice A l.length c)) := h.put (h.box.set_sup A c l) { h.laid.keep (.set h.xb _ _) with sup := hr.keep (.set h.xb _ _) }
theorem NmP.enh {A : Option Addr} {c : Nat} {l : List RV} (h : NmP X b q wr W) (hr : RRS X A c l W) : NmP X b { q with enhA := A, enhC := c, enh := l } wr (W.setCell ⟨b, 13, none⟩ (.slice A l.length c)) := h.put (h.box.set_enh A c l) { h.laid.keep (.set h.xb _ _) with enh := hr.keep (.set h.xb _ _) }
theorem NmP.obs {A : Option Addr} {c : Nat} {l : List Dp} (h : NmP X b q wr W) (hr : RdS encD 5 X A c l W) (hw : ∀ d ∈ l, d.wf) : NmP X b { q with obsA := A, obsC := c, obs := l } wr (W.setCell ⟨b, 9, none⟩ (.slice A l.length c)) := h.put (h.box.set_obs A c l) { h.laid.keep (.set h.xb _ _) with obs := hr.keep (.set h.xb _ _), obsW := hw }
theorem NmP.files {A : Option Addr} {c : Nat} {l : List ByteArray} (h : NmP X b q wr W) (hr : RdS encT1 1 X A c l W) (hw : ∀ s ∈ l, s.size ≤ maxLen) : NmP X b { q with filesA := A, filesC := c, files := l } wr (W.setCell ⟨b, 14, none⟩ (.slice A l.length c)) := h.put (h.box.set_files A c l) { h.laid.keep (.set h.xb _ _) with files := hr.keep (.set h.xb _ _), filesW := hw }
theorem NmP.prov {A : Option Addr} {c : Nat} {l : List Dp} (h : NmP X b q wr W) : NmP X b { q with provA := A, provC := c, prov := l } wr (W.setCell ⟨b, 6, none⟩ (.slice A l.length c)) := h.put (h.box.set_prov A c l) (h.laid.keep (.set h.xb _ _))
theorem NmP.len {A : Option Addr} {c : Nat} {l l' : List Dp} (h : NmP X b { q with provA := A, provC := c, prov := l } wr W) (hl : l'.length = l.length) : NmP X b { q with provA := A, provC := c, prov := l' } wr W := ⟨h.old, h.ge, h.xb, by
    obtain ⟨⟨a, c0, c1, c2, c3, c4, c5, c6, c7⟩, k⟩ := h.box
    exact ⟨⟨a, c0, c1, c2, c3, c4, c5, by rw [hl]; exact c6, c7⟩, k⟩, h.laid⟩
theorem NmP.turn {g : Nat} (h : NmP X b q wr W) (hg : X g) (hne : b ≠ g) (hge : wr.heap.size ≤ g) (l : List Value) (k : Nat) : NmP X b q wr (setL g k l W) := ⟨h.old.trans (setL_below hge l k W), h.ge, h.xb, h.box.butR (setL_butR g l k W) hne, h.laid.keep ⟨Nat.le_of_eq (setL_heap _ _ _ _).symm, fun c hc hx => (setL_butR g l k W).block c hc (fun e => hx (e ▸ hg))⟩⟩
end
/-- a row that is laid new -/
theorem RdS.lit {α : Type} {enc : α → List Value} {size : Nat} {X : Nat → Prop} {W : World} {l : List α} {cs : Array Value} {e : TypeId} {n : Nat} (he : ∀ x, (enc x).length = size) (hn : l.length = n) (hcs : cs.toList = l.flatMap enc) (hm : n ≤ maxLen) (hX : ¬ X W.heap.size) : RdS enc size X (some ⟨W.heap.size, 0, none⟩) n l (W.alloc (.cells cs e)) := by
  subst hn
  have := Rd.of_block (enc := enc) (size := size) (cap := l.length) (g := W.heap.size) (l := l) (w := W.alloc (.cells cs e)) (cs := cs) (t := e) (fz := (0, 0)) he (World.alloc_heap_new W _) hcs (Nat.le_refl _) hm
  exact ⟨by simpa using this, fun b o e2 _ => by cases e2; exact hX⟩
theorem RRS.lit {X : Nat → Prop} {W : World} {l : List RV} {cs : Array Value} {e : TypeId} {n : Nat} (hn : l.length = n) (hcs : cs.toList = l.flatMap encR) (hm : n ≤ maxLen) (hX : ¬ X W.heap.size) (ht : ∀ t ∈ l, TS X W t) : RRS X (some ⟨W.heap.size, 0, none⟩) n l (W.alloc (.cells cs e)) :=
  ⟨.lit encR_len hn hcs hm hX, fun t h => (ht t h).keep (.of ((Below.refl _ _).alloc (Nat.le_refl _) _))⟩
theorem atomR_ts (X : Nat → Prop) (W : World) (x : Bytes) (h : x.length ≤ maxLen) : TS X W (atomR x) := .of (B := 0) (atomR_rtree 0 W x h) (Nat.zero_le _) fun b hb => absurd hb (Nat.not_lt_zero _)
theorem zeroR_ts (X : Nat → Prop) (W : World) (k : Int) : TS X W (.node k zeroT none 0 []) := .mk ⟨Nat.zero_le _, rfl, rfl, Nat.zero_le _, Nat.zero_le _⟩ (Nat.zero_le _) (Nat.zero_le _) (fun k hk => absurd hk (Nat.not_lt_zero _)) (fun a ha => by cases ha)
theorem atomR_ko (x : Bytes) : KO (atomR x) := .mk (show (0 : Int) ≤ 1 ∧ (1 : Int) ≤ 255 by decide) fun a ha => by cases ha
/-- If, or Unless, of a and b -/
def twoR (k : Int) (g : Nat) : RV := .node k zeroT (some ⟨g, 0, none⟩) 2 [atomR [97], atomR [98]]
def twoT (k : Int) : RT := .mk k zeroT [atomT [97], atomT [98]]
theorem twoR_ko {k : Int} (h : 0 ≤ k ∧ k ≤ 255) (g : Nat) : KO (twoR k g) := .mk h fun a ha => by
  simp only [twoR, RV.args, List.mem_cons, List.not_mem_nil, or_false] at ha
  rcases ha with rfl | rfl <;> exact atomR_ko _
/-- the row and the box of an If, or Unless, as the walk lays them -/
theorem two_made (k : Int) (W : World) (V : World) (hV : V = ((W.alloc (.cells #[.int .u8 1, .string ⟨#[97]⟩, .int .u8 0, .int .i64 0, .string ⟨#[]⟩, .string ⟨#[]⟩, .slice none 0 0, .int .u8 1, .string ⟨#[98]⟩, .int .u8 0, .int .i64 0, .string ⟨#[]⟩, .string ⟨#[]⟩, .slice none 0 0] 28)).alloc (.cells #[.int .u8 k, .string ⟨#[]⟩, .int .u8 0, .int .i64 0, .string ⟨#[]⟩, .string ⟨#[]⟩, .slice (some ⟨W.heap.size, 0, none⟩) 2 2] 28))) :
    RBn (W.heap.size + 1) (twoR k W.heap.size) V ∧ RTree V.heap.size V (twoR k W.heap.size) ∧ Below W.heap.size W V := by
  subst hV
  have h1 := lit_tree (w := W) (l := [atomR [97], atomR [98]]) (cs := #[.int .u8 1, .string ⟨#[97]⟩, .int .u8 0, .int .i64 0, .string ⟨#[]⟩, .string ⟨#[]⟩, .slice none 0 0, .int .u8 1, .string ⟨#[98]⟩, .int .u8 0, .int .i64 0, .string ⟨#[]⟩, .string ⟨#[]⟩, .slice none 0 0]) (e := 28) (k := k) (n := 2) rfl rfl (by decide) (fun t ht => by
    simp only [List.mem_cons, List.not_mem_nil, or_false] at ht
    rcases ht with rfl | rfl <;> exact atomR_rtree _ _ _ (by decide))
  have hb := (Below.refl W.heap.size W).alloc (Nat.le_refl _) (.cells #[.int .u8 1, .string ⟨#[97]⟩, .int .u8 0, .int .i64 0, .string ⟨#[]⟩, .string ⟨#[]⟩, .slice none 0 0, .int .u8 1, .string ⟨#[98]⟩, .int .u8 0, .int .i64 0, .string ⟨#[]⟩, .string ⟨#[]⟩, .slice none 0 0] 28)
  refine ⟨⟨by simp, ?_, ?_, ?_, ?_, ?_, ?_, ?_⟩, (h1.keeps ((Below.refl _ _).alloc (Nat.le_refl _) _)).more (by simp), hb.alloc (by simp) _⟩
  all_goals exact (World.cell?_alloc_at _ _ _ _ (by simp)).trans rfl
theorem own_litN {α : Type} {enc : α → List Value} {size base : Nat} {W : World} {l : List α} {cs : Array Value} {e : TypeId} {n : Nat} (he : ∀ x, (enc x).length = size) (hn : l.length = n) (hcs : cs.toList = l.flatMap enc) (hm : n ≤ maxLen) (hb : base ≤ W.heap.size) : Own enc size base e (.slice (some ⟨W.heap.size, 0, none⟩) n n) l (W.alloc (.cells cs e)) := by
  subst hn
  have hl : (l.flatMap enc).length = l.length * size := by
    clear hcs hm hb
    induction l with
    | nil => simp
    | cons a l ih => simp [ih, he, Nat.add_mul, Nat.add_comm]
  refine ⟨hl, .inr ⟨W.heap.size, l.length, cs, rfl, hb, World.alloc_heap_new W _, Nat.le_refl _, hm, ?_, ?_⟩⟩
  · rw [← Array.length_toList, hcs, hl]
  · rw [hcs, ← hl, List.take_length]
def zeroRV : RV := .node 0 zeroT none 0 []
theorem infoDepN : (Tryd.prog.info? 25).map (fun i => (i.zero, i.size, i.bytes)) = some (some (.agg #[.string ByteArray.empty, .int .u8 0, .int .i64 0, .string ByteArray.empty, .string ByteArray.empty]), 5, 64) := by kernel_rfl
theorem infoRichN : (Tryd.prog.info? 28).map (fun i => (i.zero, i.size, i.bytes)) = some (some (.agg #[.int .u8 0, .string ByteArray.empty, .int .u8 0, .int .i64 0, .string ByteArray.empty, .string ByteArray.empty, .slice none 0 0]), 7, 96) := by kernel_rfl
def dep32 : Array Value := madeCells (Value.agg #[.string ByteArray.empty, .int .u8 0, .int .i64 0, .string ByteArray.empty, .string ByteArray.empty]).cells 160
def rich33 : Array Value := madeCells (Value.agg #[.int .u8 0, .string ByteArray.empty, .int .u8 0, .int .i64 0, .string ByteArray.empty, .string ByteArray.empty, .slice none 0 0]).cells 231
theorem dep32_list : dep32.toList = (List.replicate 32 zeroT).flatMap encD := by kernel_rfl
theorem rich33_list : rich33.toList = (List.replicate 33 zeroRV).flatMap encR := by kernel_rfl
theorem info_partsN {z : Value} {n m : Nat} {t : TypeId} (h : (Tryd.prog.info? t).map (fun i => (i.zero, i.size, i.bytes)) = some (some z, n, m)) : ∃ i, Tryd.prog.info? t = some i ∧ i.zero = some z ∧ i.size = n ∧ i.bytes = m := by
  cases hi : Tryd.prog.info? t with
  | none => rw [hi] at h; simp at h
  | some i => rw [hi] at h; simp at h; exact ⟨i, rfl, h.1, h.2.1, h.2.2⟩
theorem make32 (W : World) : (Instr.makeSlice 30 (.int .i64 32) (.int .i64 32)).run Tryd.prog W = .ok (.slice (some ⟨W.heap.size, 0, none⟩) 32 32) (W.alloc (.cells dep32 25)) := by
  obtain ⟨i0, hi, h0, h1, h2⟩ := info_partsN infoDepN
  have h := run_makeSlice (P := Tryd.prog) W 30 25 i0 _ Tryd.underlying30 hi h0 .i64 .i64 32 32 (by decide) (by decide) (by rw [h1]; decide) (by rw [h2]; decide) (by decide)
  rw [h1] at h
  exact h
theorem make33 (W : World) : (Instr.makeSlice 26 (.int .i64 33) (.int .i64 33)).run Tryd.prog W = .ok (.slice (some ⟨W.heap.size, 0, none⟩) 33 33) (W.alloc (.cells rich33 28)) := by
  obtain ⟨i0, hi, h0, h1, h2⟩ := info_partsN infoRichN
  have h := run_makeSlice (P := Tryd.prog) W 26 28 i0 _ Tryd.underlying26 hi h0 .i64 .i64 33 33 (by decide) (by decide) (by rw [h1]; decide) (by rw [h2]; decide) (by decide)
  rw [h1] at h
  exact h
def g0 (A : Option Addr) : Pk := { P1 with provA := A, provC := 32, prov := List.replicate 32 zeroT }
def xN (b : Nat) (x : Nat) : Prop := x = b ∨ x = b + 1
theorem laid_p1 (X : Nat → Prop) (W : World) : LaidS X P1.np W :=
  { ar := rfl, ep := rfl, n0 := by decide, n1 := by decide, n2 := by decide, n3 := by decide, prov := .none_, provW := (fun d hd => by cases hd), obs := .none_, obsW := (fun d hd => by cases hd), files := .none_, filesW := (fun d hd => by cases hd), req := .none_, con := .none_, rcm := .none_, sup := .none_, sug := .none_, enh := .none_ }
theorem box_p1 (W : World) : Box15 W.heap.size P1 (W.alloc (.cells #[.string ⟨#[97]⟩, .int .i64 0, .string ⟨#[49]⟩, .string ⟨#[49]⟩, .int .u8 1, .string ⟨#[]⟩, .slice none 0 0, .slice none 0 0, .slice none 0 0, .slice none 0 0, .slice none 0 0, .slice none 0 0, .slice none 0 0, .slice none 0 0, .slice none 0 0] 33)) :=
  ⟨PkAt.new W P1, fun i hi => by simp [go_sem], by simp⟩
theorem nm_start (W V : World) (hV : V = ((W.alloc (.cells #[.string ⟨#[97]⟩, .int .i64 0, .string ⟨#[49]⟩, .string ⟨#[49]⟩, .int .u8 1, .string ⟨#[]⟩, .slice none 0 0, .slice none 0 0, .slice none 0 0, .slice none 0 0, .slice none 0 0, .slice none 0 0, .slice none 0 0, .slice none 0 0, .slice none 0 0] 33)).alloc (.cells dep32 25)).setCell ⟨W.heap.size, 6, none⟩ (.slice (some ⟨W.heap.size + 1, 0, none⟩) 32 32)) :
    NmP (xN W.heap.size) W.heap.size (g0 (some ⟨W.heap.size + 1, 0, none⟩)) W V ∧ Own encD 5 (W.heap.size + 1) 25 (.slice (some ⟨W.heap.size + 1, 0, none⟩) 32 32) (List.replicate 32 zeroT) V ∧ V.heap.size = W.heap.size + 2 := by
  subst hV
  have hb := box_p1 W
  have hl := laid_p1 (xN W.heap.size) (W.alloc (.cells #[.string ⟨#[97]⟩, .int .i64 0, .string ⟨#[49]⟩, .string ⟨#[49]⟩, .int .u8 1, .string ⟨#[]⟩, .slice none 0 0, .slice none 0 0, .slice none 0 0, .slice none 0 0, .slice none 0 0, .slice none 0 0, .slice none 0 0, .slice none 0 0, .slice none 0 0] 33))
  have hB := (Below.refl W.heap.size W).alloc (Nat.le_refl _) (.cells #[.string ⟨#[97]⟩, .int .i64 0, .string ⟨#[49]⟩, .string ⟨#[49]⟩, .int .u8 1, .string ⟨#[]⟩, .slice none 0 0, .slice none 0 0, .slice none 0 0, .slice none 0 0, .slice none 0 0, .slice none 0 0, .slice none 0 0, .slice none 0 0, .slice none 0 0] 33)
  have hz : (W.alloc (.cells #[.string ⟨#[97]⟩, .int .i64 0, .string ⟨#[49]⟩, .string ⟨#[49]⟩, .int .u8 1, .string ⟨#[]⟩, .slice none 0 0, .slice none 0 0, .slice none 0 0, .slice none 0 0, .slice none 0 0, .slice none 0 0, .slice none 0 0, .slice none 0 0, .slice none 0 0] 33)).heap.size = W.heap.size + 1 := by simp
  generalize W.alloc (.cells #[.string ⟨#[97]⟩, .int .i64 0, .string ⟨#[49]⟩, .string ⟨#[49]⟩, .int .u8 1, .string ⟨#[]⟩, .slice none 0 0, .slice none 0 0, .slice none 0 0, .slice none 0 0, .slice none 0 0, .slice none 0 0, .slice none 0 0, .slice none 0 0, .slice none 0 0] 33) = Z at *
  have hN : NmP (xN W.heap.size) W.heap.size P1 W Z := ⟨hB, Nat.le_refl _, .inl rfl, hb, hl⟩
  have hO := own_litN (base := W.heap.size + 1) (W := Z) (l := List.replicate 32 zeroT) (cs := dep32) (e := 25) (n := 32) encD_len (by simp) dep32_list (by decide) (by omega)
  rw [hz] at hO
  refine ⟨(hN.then ((Below.refl _ _).alloc (Nat.le_refl _) _)).prov (A := some ⟨W.heap.size + 1, 0, none⟩) (c := 32) (l := List.replicate 32 zeroT), hO.butR ((ButR.refl W.heap.size _).set 6 _) (by omega), by simp [World.setCell, hz]⟩
end Go.Proofs.YtcpjignlhlcnpaaDoor
