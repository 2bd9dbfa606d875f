/- joined: PkRow, PkPack, AppendRd -/
import Derived.Test.YtinidiiachedbaaDoorRowLaid
import Derived.Test.YtinidiiachedbaaDoorTRow
import Derived.Maps.AppendAt
namespace Go.Proofs.YtinidiiachedbaaDoor
open Go.RowKit
set_option linter.unusedVariables false
/- Packages in memory: dependencies in a row, rich dependencies as trees. -/

/-- a rich dependency as it lies: its kind, its dependency, where its parts lie, and these -/
inductive RV where
  | node (kind : Int) (d : Dp) (A : Option Addr) (cap : Nat) (args : List RV)
def RV.kind : RV → Int | .node k _ _ _ _ => k
def RV.dep : RV → Dp | .node _ d _ _ _ => d
def RV.addr : RV → Option Addr | .node _ _ A _ _ => A
def RV.cap : RV → Nat | .node _ _ _ c _ => c
def RV.args : RV → List RV | .node _ _ _ _ l => l
def encD (d : Dp) : List Value := [.string (bs d.name), .int .u8 d.op, .int .i64 d.evr.epoch, .string (bs d.evr.ver), .string (bs d.evr.rel)]
def encR (t : RV) : List Value := [.int .u8 t.kind, .string (bs t.dep.name), .int .u8 t.dep.op, .int .i64 t.dep.evr.epoch, .string (bs t.dep.evr.ver), .string (bs t.dep.evr.rel), .slice t.addr t.args.length t.cap]
/-- it lies in blocks below B -/
inductive RTree (B : Nat) (W : World) : RV → Prop where
  | mk {t : RV} : t.dep.wf → Rd encR 7 B t.addr t.cap t.args W → (∀ a ∈ t.args, RTree B W a) → RTree B W t
theorem RTree.wf {B : Nat} {W : World} {t : RV} (h : RTree B W t) : t.dep.wf := by cases h; assumption
theorem RTree.row {B : Nat} {W : World} {t : RV} (h : RTree B W t) : Rd encR 7 B t.addr t.cap t.args W := by cases h; assumption
theorem RTree.sub {B : Nat} {W : World} {t : RV} (h : RTree B W t) : ∀ a ∈ t.args, RTree B W a := by cases h; assumption
theorem RTree.keeps {B : Nat} {W W' : World} {t : RV} (h : RTree B W t) (hb : Below B W W') : RTree B W' t := by
  induction h with
  | mk hw hr _ ih => exact .mk hw (hr.below hb) ih
theorem RTree.more {B B' : Nat} {W : World} {t : RV} (h : RTree B W t) (hb : B ≤ B') : RTree B' W t := by
  induction h with
  | mk hw hr _ ih => exact .mk hw (hr.more hb) ih
/-- a row of rich dependencies -/
def RRow (B : Nat) (W : World) (A : Option Addr) (cap : Nat) (l : List RV) : Prop := Rd encR 7 B A cap l W ∧ ∀ t ∈ l, RTree B W t
theorem RRow.below {B : Nat} {W W' : World} {A : Option Addr} {cap : Nat} {l : List RV} (h : RRow B W A cap l) (hb : Below B W W') : RRow B W' A cap l := ⟨h.1.below hb, fun t ht => (h.2 t ht).keeps hb⟩
theorem RRow.more {B B' : Nat} {W : World} {A : Option Addr} {cap : Nat} {l : List RV} (h : RRow B W A cap l) (hb : B ≤ B') : RRow B' W A cap l := ⟨h.1.more hb, fun t ht => (h.2 t ht).more hb⟩
theorem RRow.sub {B : Nat} {W : World} {A : Option Addr} {cap : Nat} {l : List RV} (h : RRow B W A cap l) {k : Nat} (hk : k < l.length) : RRow B W l[k].addr l[k].cap l[k].args := ⟨(h.2 _ (List.getElem_mem hk)).row, (h.2 _ (List.getElem_mem hk)).sub⟩
theorem Rd.cells {α : Type} {enc : α → List Value} {size B : Nat} {A : Option Addr} {cap : Nat} {l : List α} {w : World} (h : Rd enc size B A cap l w) {k : Nat} (hk : k < l.length) : ∃ b o, A = some ⟨b, o, none⟩ ∧ b < B ∧ ∀ i v, (enc l[k])[i]? = some v → w.cell? ⟨b, o + k * size + i, none⟩ = some v := by
  obtain ⟨b, o, e, hb, hc⟩ := h.2.2 k hk
  exact ⟨b, o, e, hb, fun i v hv => hc i v hv⟩
/-- the cells of a rich dependency in its row -/
theorem RRow.at_ {B : Nat} {W : World} {A : Option Addr} {cap : Nat} {l : List RV} (h : RRow B W A cap l) {k : Nat} (hk : k < l.length) : ∃ b o, A = some ⟨b, o, none⟩ ∧ b < B ∧ W.cell? ⟨b, o + k * 7, none⟩ = some (.int .u8 l[k].kind) ∧ W.cell? ⟨b, o + k * 7 + 1, none⟩ = some (.string (bs l[k].dep.name)) ∧ W.cell? ⟨b, o + k * 7 + 2, none⟩ = some (.int .u8 l[k].dep.op) ∧ W.cell? ⟨b, o + k * 7 + 3, none⟩ = some (.int .i64 l[k].dep.evr.epoch) ∧ W.cell? ⟨b, o + k * 7 + 4, none⟩ = some (.string (bs l[k].dep.evr.ver)) ∧ W.cell? ⟨b, o + k * 7 + 5, none⟩ = some (.string (bs l[k].dep.evr.rel)) ∧ W.cell? ⟨b, o + k * 7 + 6, none⟩ = some (.slice l[k].addr l[k].args.length l[k].cap) := by
  obtain ⟨b, o, e, hb, hc⟩ := h.1.cells hk
  exact ⟨b, o, e, hb, hc 0 _ rfl, hc 1 _ rfl, hc 2 _ rfl, hc 3 _ rfl, hc 4 _ rfl, hc 5 _ rfl, hc 6 _ rfl⟩
/-- the cells of a dependency in its row -/
theorem Rd.dep_at {B : Nat} {W : World} {A : Option Addr} {cap : Nat} {l : List Dp} (h : Rd encD 5 B A cap l W) {k : Nat} (hk : k < l.length) : ∃ b o, A = some ⟨b, o, none⟩ ∧ b < B ∧ W.cell? ⟨b, o + k * 5, none⟩ = some (.string (bs l[k].name)) ∧ W.cell? ⟨b, o + k * 5 + 1, none⟩ = some (.int .u8 l[k].op) ∧ W.cell? ⟨b, o + k * 5 + 2, none⟩ = some (.int .i64 l[k].evr.epoch) ∧ W.cell? ⟨b, o + k * 5 + 3, none⟩ = some (.string (bs l[k].evr.ver)) ∧ W.cell? ⟨b, o + k * 5 + 4, none⟩ = some (.string (bs l[k].evr.rel)) := by
  obtain ⟨b, o, e, hb, hc⟩ := h.cells hk
  exact ⟨b, o, e, hb, hc 0 _ rfl, hc 1 _ rfl, hc 2 _ rfl, hc 3 _ rfl, hc 4 _ rfl⟩

/- A package, as it lies in memory. -/

structure Pk where
  name : ByteArray
  epoch : Int
  ver : ByteArray
  rel : ByteArray
  arch : Int
  vendor : ByteArray
  provA : Option Addr
  provC : Nat
  prov : List Dp
  reqA : Option Addr
  reqC : Nat
  req : List RV
  conA : Option Addr
  conC : Nat
  con : List RV
  obsA : Option Addr
  obsC : Nat
  obs : List Dp
  rcmA : Option Addr
  rcmC : Nat
  rcm : List RV
  supA : Option Addr
  supC : Nat
  sup : List RV
  sugA : Option Addr
  sugC : Nat
  sug : List RV
  enhA : Option Addr
  enhC : Nat
  enh : List RV
  filesA : Option Addr
  filesC : Nat
  files : List ByteArray
def Pk.val (p : Pk) : Value := .agg #[.string p.name, .int .i64 p.epoch, .string p.ver, .string p.rel, .int .u8 p.arch, .string p.vendor, .slice p.provA p.prov.length p.provC, .slice p.reqA p.req.length p.reqC, .slice p.conA p.con.length p.conC, .slice p.obsA p.obs.length p.obsC, .slice p.rcmA p.rcm.length p.rcmC, .slice p.supA p.sup.length p.supC, .slice p.sugA p.sug.length p.sugC, .slice p.enhA p.enh.length p.enhC, .slice p.filesA p.files.length p.filesC]
def Pk.evr (p : Pk) : Evr := ⟨p.epoch, p.ver.toList, p.rel.toList⟩
def Dp.small (d : Dp) : Prop := d.name.length ≤ 500 ∧ d.evr.ver.length ≤ 500 ∧ d.evr.rel.length ≤ 500
/-- small enough for a statement -/
structure Pk.small (p : Pk) : Prop where
  name : p.name.size ≤ 1000
  ver : p.ver.size ≤ 1000
  rel : p.rel.size ≤ 1000
  vendor : p.vendor.size ≤ 1000
  provN : p.prov.length ≤ 100
  obsN : p.obs.length ≤ 100
  filesN : p.files.length ≤ 100
  prov : ∀ d ∈ p.prov, d.small
  obs : ∀ d ∈ p.obs, d.small
  files : ∀ s ∈ p.files, s.size ≤ 500
/-- it lies in blocks below B -/
structure Pk.Laid (B : Nat) (W : World) (p : Pk) : Prop where
  ar : (Lit.int .u8 p.arch).wf = true
  ep : (Lit.int .i64 p.epoch).wf = true
  n0 : p.name.size ≤ maxLen
  n1 : p.ver.size ≤ maxLen
  n2 : p.rel.size ≤ maxLen
  n3 : p.vendor.size ≤ maxLen
  prov : Rd encD 5 B p.provA p.provC p.prov W
  provW : ∀ d ∈ p.prov, d.wf
  obs : Rd encD 5 B p.obsA p.obsC p.obs W
  obsW : ∀ d ∈ p.obs, d.wf
  files : Rd (fun s => [Value.string s]) 1 B p.filesA p.filesC p.files W
  filesW : ∀ s ∈ p.files, s.size ≤ maxLen
  req : RRow B W p.reqA p.reqC p.req
  con : RRow B W p.conA p.conC p.con
  rcm : RRow B W p.rcmA p.rcmC p.rcm
  sup : RRow B W p.supA p.supC p.sup
  sug : RRow B W p.sugA p.sugC p.sug
  enh : RRow B W p.enhA p.enhC p.enh
theorem Pk.Laid.below {B : Nat} {W W' : World} {p : Pk} (h : p.Laid B W) (hb : Below B W W') : p.Laid B W' :=
  { h with prov := h.prov.below hb, obs := h.obs.below hb, files := h.files.below hb, req := h.req.below hb, con := h.con.below hb, rcm := h.rcm.below hb, sup := h.sup.below hb, sug := h.sug.below hb, enh := h.enh.below hb }
theorem Pk.Laid.more {B B' : Nat} {W : World} {p : Pk} (h : p.Laid B W) (hb : B ≤ B') : p.Laid B' W :=
  { h with prov := h.prov.more hb, obs := h.obs.more hb, files := h.files.more hb, req := h.req.more hb, con := h.con.more hb, rcm := h.rcm.more hb, sup := h.sup.more hb, sug := h.sug.more hb, enh := h.enh.more hb }
theorem Pk.Laid.calls {W W' : World} {p : Pk} (h : p.Laid W.heap.size W) (hb : Below W.heap.size W W') : p.Laid W'.heap.size W' := (h.below hb).more hb.size
theorem encD_len (d : Dp) : (encD d).length = 5 := rfl
theorem encD_one (d : Dp) : ∀ u ∈ encD d, u.oneCell' = true := by
  intro u hu
  simp only [encD, List.mem_cons, List.not_mem_nil, or_false] at hu
  rcases hu with rfl | rfl | rfl | rfl | rfl <;> rfl

/- append of a slice that came in, of whatever elements, nil too, onto a row of the call's own. -/

theorem len_flat {α β : Type} {enc : α → List β} {size : Nat} (he : ∀ x, (enc x).length = size) : ∀ D : List α, (D.flatMap enc).length = D.length * size
  | [] => by simp
  | x :: D => by rw [List.flatMap_cons, List.length_append, he, len_flat he D, List.length_cons, Nat.add_mul]; omega
section
variable {P : Program} {α : Type} {enc : α → List Value} (w : World)
theorem run_append_nil (base : Nat) (t ty e : TypeId) (i : TypeInfo) (size : Nat) (ht : P.underlying t = some (.slice e)) (hi : P.info? e = some i)
    (v : Value) (n : Nat) (xs : List Value) (hown : w.ownsRow base e size v n xs) (c : Nat) : (Builtin.append_ #[t, t] ty #[v, .slice none 0 c]).run P w = .ok v w := by
  rcases hown.2 with ⟨rfl, rfl⟩ | ⟨g, cap, cur, rfl, _, _, hnc, _⟩
  · simp [Builtin.append_, run_underlying ht, sizeOf, typeInfo, hi, Builtin.lenOf, Builtin.firstCells]
  · simp [Builtin.append_, run_underlying ht, sizeOf, typeInfo, hi, Builtin.lenOf, Builtin.firstCells, hnc, storeCells]
theorem run_append_rd (base : Nat) (t ty e : TypeId) (i : TypeInfo) (z : Value) (size bytes : Nat) (ht : P.underlying t = some (.slice e)) (hi : P.info? e = some i) (hz : i.zero = some z) (hsize : i.size = size) (hby : i.bytes = bytes) (hzc : z.cells.size = size) (hs0 : 0 < size)
    (he : ∀ x, (enc x).length = size) (h1 : ∀ x, ∀ u ∈ enc x, u.oneCell' = true)
    (v : Value) (n : Nat) (xs : List Value) (hown : w.ownsRow base e size v n xs) (B : Nat) (A : Option Addr) (c : Nat) (D : List α) (hT : Rd enc size B A c D w) (hn : n + D.length ≤ 1000000) (hbytes : bytes ≤ 1000) (hbase : base ≤ w.heap.size) :
    ∃ v' w', (Builtin.append_ #[t, t] ty #[v, .slice A D.length c]).run P w = .ok v' w' ∧ w'.ownsRow base e size v' (n + D.length) (xs ++ D.flatMap enc) ∧ w.grownBy w' v.ownBlock ∧ (v'.ownBlock = v.ownBlock ∨ v'.ownBlock = some w.heap.size) := by
  cases A with
  | none =>
    have hD : D = [] := by
      cases D with
      | nil => rfl
      | cons x D => obtain ⟨b, o, e, _⟩ := hT.2.2 0 (by simp); cases e
    subst hD
    exact ⟨v, w, run_append_nil w base t ty e i size ht hi v n xs hown c, by simpa using hown, World.grownBy.refl w _, .inl rfl⟩
  | some ad =>
    obtain ⟨v', w', hrun, r1, r2, _, r4⟩ := run_append_own_at (P := P) w base t ty e i z size bytes ht hi hz hsize hby hzc hs0 v n xs hown ad D.length c (D.flatMap enc) (len_flat he D) (fun j u hu => by
      have hj : j < D.length * size := by
        have := (List.getElem?_eq_some_iff.1 hu).1
        rw [len_flat he] at this
        exact this
      have hk : j / size < D.length := Nat.div_lt_of_lt_mul (by rw [Nat.mul_comm]; exact hj)
      obtain ⟨b, o, e2, _, hc⟩ := hT.2.2 (j / size) hk
      cases e2
      rw [Addr.add_lit]
      have hd := Nat.div_add_mod j size
      have h3 := flatMap_at enc size he D (j / size) hk (j % size) (Nat.mod_lt _ hs0)
      rw [show j / size * size + j % size = j by rw [Nat.mul_comm]; exact hd, hu] at h3
      have h4 := hc (j % size) u h3.symm
      rw [show o + j / size * size + j % size = o + j by rw [Nat.add_assoc, Nat.mul_comm (j / size)]; rw [hd]] at h4
      exact h4) (fun u hu => by obtain ⟨x, _, hx⟩ := List.mem_flatMap.1 hu; exact h1 x u hx) (by unfold maxLen; omega) (by have := Nat.mul_le_mul hn hbytes; omega) hbase
    exact ⟨v', w', hrun, r1, r2, r4⟩
/-- the same, as a step of a region that draws -/
theorem step_append_rd {ops : Array Oper} {o : Oper} {a : Act} {K : Act → World → Prop} {Q : Exit → Act → World → Prop} {E : Prop} (hgd : o.guard = none) (s x : Operand) (t : TypeId)
    (ho : o.op = .call { callee := .builtin .append, args := #[s, x], argTypes := #[t, t] })
    (base : Nat) (e : TypeId) (i : TypeInfo) (z : Value) (size bytes : Nat) (ht : P.underlying t = some (.slice e)) (hi : P.info? e = some i) (hz : i.zero = some z) (hsize : i.size = size) (hby : i.bytes = bytes) (hzc : z.cells.size = size) (hs0 : 0 < size)
    (he : ∀ x, (enc x).length = size) (h1 : ∀ x, ∀ u ∈ enc x, u.oneCell' = true)
    (v : Value) (n : Nat) (xs : List Value) (hs : a.eval s = v) (hown : w.ownsRow base e size v n xs) (B : Nat) (A : Option Addr) (c : Nat) (D : List α) (m : Nat) (hm : m = D.length) (hx : a.eval x = .slice A m c) (hT : Rd enc size B A c D w) (hn : n + D.length ≤ 1000000) (hbytes : bytes ≤ 1000) (hbase : base ≤ w.heap.size)
    (h : ∀ v' w', w'.ownsRow base e size v' (n + D.length) (xs ++ D.flatMap enc) → w.grownBy w' v.ownBlock → (v'.ownBlock = v.ownBlock ∨ v'.ownBlock = some w.heap.size) → K (a.put o.dst v') w') :
    if Region.wanted o (yielded ops a.tmps) = true then Oper.wp P o a w K Q else E := by
  subst hm
  have hw : Region.wanted o (yielded ops a.tmps) = true := by simp [Region.wanted, hgd]
  rw [if_pos hw]
  obtain ⟨v', w', hrun, r1, r2, r3⟩ := run_append_rd (P := P) w base t o.type e i z size bytes ht hi hz hsize hby hzc hs0 he h1 v n xs hown B A c D hT hn hbytes hbase
  unfold Oper.wp
  simp [execOp, ho, resolve, invoke, builtin, hs, hx, hrun, Result.andThen]
  exact h v' w' r1 r2 r3
end
end Go.Proofs.YtinidiiachedbaaDoor
