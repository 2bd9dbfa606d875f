/- AppendRd, PkA -/
import Derived.Test.YtcpjignlhlcnpaaDoorPkgNamesRowG08
import Derived.Test.YtcpjignlhlcnpaaDoorPkgNamesRowG10
import Derived.Maps.AppendAt
import Derived.Deep.RegionHeld3
set_option linter.unusedSimpArgs false
set_option linter.unusedVariables false
namespace Go.Proofs.YtcpjignlhlcnpaaDoor
section
/- append of a slice that came in, of whatever elements, nil too, onto a row of the call's own. -/



open Go.RowKit

theorem len_flat {α β : Type} {enc : α → List β} {size : Nat} (he : ∀ x, (enc x).length = size) : ∀ D : List α, (D.flatMap enc).length = D.length * size
  | [] => by simp
  | x :: D => by rw [List.flatMap_cons, List.length_append, he, len_flat he D, List.length_cons, Nat.add_mul]; omega
section
variable {P : Program} {α : Type} {enc : α → List Value} (w : World)
theorem run_append_nil (base : Nat) (t ty e : TypeId) (i : TypeInfo) (size : Nat) (ht : P.underlying t = some (.slice e)) (hi : P.info? e = some i)
    (v : Value) (n : Nat) (xs : List Value) (hown : w.ownsRow base e size v n xs) (c : Nat) : (Builtin.append_ #[t, t] ty #[v, .slice none 0 c]).run P w = .ok v w := by
  rcases hown.2 with ⟨rfl, rfl⟩ | ⟨g, cap, cur, rfl, _, _, hnc, _⟩
  · simp [Builtin.append_, run_underlying ht, sizeOf, typeInfo, hi, Builtin.lenOf, Builtin.firstCells]
  · simp [Builtin.append_, run_underlying ht, sizeOf, typeInfo, hi, Builtin.lenOf, Builtin.firstCells, hnc, storeCells]
theorem run_append_rd (base : Nat) (t ty e : TypeId) (i : TypeInfo) (z : Value) (size bytes : Nat) (ht : P.underlying t = some (.slice e)) (hi : P.info? e = some i) (hz : i.zero = some z) (hsize : i.size = size) (hby : i.bytes = bytes) (hzc : z.cells.size = size) (hs0 : 0 < size)
    (he : ∀ x, (enc x).length = size) (h1 : ∀ x, ∀ u ∈ enc x, u.oneCell' = true)
    (v : Value) (n : Nat) (xs : List Value) (hown : w.ownsRow base e size v n xs) (B : Nat) (A : Option Addr) (c : Nat) (D : List α) (hT : Rd enc size B A c D w) (hn : n + D.length ≤ 1000000) (hbytes : bytes ≤ 1000) (hbase : base ≤ w.heap.size) :
    ∃ v' w', (Builtin.append_ #[t, t] ty #[v, .slice A D.length c]).run P w = .ok v' w' ∧ w'.ownsRow base e size v' (n + D.length) (xs ++ D.flatMap enc) ∧ w.grownBy w' v.ownBlock ∧ (v'.ownBlock = v.ownBlock ∨ v'.ownBlock = some w.heap.size) := by
  cases A with
  | none =>
    have hD : D = [] := by
      cases D with
      | nil => rfl
      | cons x D => obtain ⟨b, o, e, _⟩ := hT.2.2 0 (by simp); cases e
    subst hD
    exact ⟨v, w, run_append_nil w base t ty e i size ht hi v n xs hown c, by simpa using hown, World.grownBy.refl w _, .inl rfl⟩
  | some ad =>
    obtain ⟨v', w', hrun, r1, r2, _, r4⟩ := run_append_own_at (P := P) w base t ty e i z size bytes ht hi hz hsize hby hzc hs0 v n xs hown ad D.length c (D.flatMap enc) (len_flat he D) (fun j u hu => by
      have hj : j < D.length * size := by
        have := (List.getElem?_eq_some_iff.1 hu).1
        rw [len_flat he] at this
        exact this
      have hk : j / size < D.length := Nat.div_lt_of_lt_mul (by rw [Nat.mul_comm]; exact hj)
      obtain ⟨b, o, e2, _, hc⟩ := hT.2.2 (j / size) hk
      cases e2
      rw [Addr.add_lit]
      have hd := Nat.div_add_mod j size
      have h3 := flatMap_at enc size he D (j / size) hk (j % size) (Nat.mod_lt _ hs0)
      rw [show j / size * size + j % size = j by rw [Nat.mul_comm]; exact hd, hu] at h3
      have h4 := hc (j % size) u h3.symm
      rw [show o + j / size * size + j % size = o + j by rw [Nat.add_assoc, Nat.mul_comm (j / size)]; rw [hd]] at h4
      exact h4) (fun u hu => by obtain ⟨x, _, hx⟩ := List.mem_flatMap.1 hu; exact h1 x u hx) (by unfold maxLen; omega) (by have := Nat.mul_le_mul hn hbytes; omega) hbase
    exact ⟨v', w', hrun, r1, r2, r4⟩
/-- the same, as a step of a region that draws -/
theorem step_append_rd {ops : Array Oper} {o : Oper} {a : Act} {K : Act → World → Prop} {Q : Exit → Act → World → Prop} {E : Prop} (hgd : o.guard = none) (s x : Operand) (t : TypeId)
    (ho : o.op = .call { callee := .builtin .append, args := #[s, x], argTypes := #[t, t] })
    (base : Nat) (e : TypeId) (i : TypeInfo) (z : Value) (size bytes : Nat) (ht : P.underlying t = some (.slice e)) (hi : P.info? e = some i) (hz : i.zero = some z) (hsize : i.size = size) (hby : i.bytes = bytes) (hzc : z.cells.size = size) (hs0 : 0 < size)
    (he : ∀ x, (enc x).length = size) (h1 : ∀ x, ∀ u ∈ enc x, u.oneCell' = true)
    (v : Value) (n : Nat) (xs : List Value) (hs : a.eval s = v) (hown : w.ownsRow base e size v n xs) (B : Nat) (A : Option Addr) (c : Nat) (D : List α) (m : Nat) (hm : m = D.length) (hx : a.eval x = .slice A m c) (hT : Rd enc size B A c D w) (hn : n + D.length ≤ 1000000) (hbytes : bytes ≤ 1000) (hbase : base ≤ w.heap.size)
    (h : ∀ v' w', w'.ownsRow base e size v' (n + D.length) (xs ++ D.flatMap enc) → w.grownBy w' v.ownBlock → (v'.ownBlock = v.ownBlock ∨ v'.ownBlock = some w.heap.size) → K (a.put o.dst v') w') :
    if Region.wanted o (yielded ops a.tmps) = true then Oper.wp P o a w K Q else E := by
  subst hm
  have hw : Region.wanted o (yielded ops a.tmps) = true := by simp [Region.wanted, hgd]
  rw [if_pos hw]
  obtain ⟨v', w', hrun, r1, r2, r3⟩ := run_append_rd (P := P) w base t o.type e i z size bytes ht hi hz hsize hby hzc hs0 he h1 v n xs hown B A c D hT hn hbytes hbase
  unfold Oper.wp
  simp [execOp, ho, resolve, invoke, builtin, hs, hx, hrun, Result.andThen]
  exact h v' w' r1 r2 r3
end
end
section
/- joined: PkMuch, PkPack -/





open Go.RowKit Go.Shelf
set_option linter.unusedVariables false
/- Walks: of how many parts rich dependencies are (chandlerylaw10.much). -/

/- A package, as it lies in memory. -/

structure Pk where
  name : ByteArray
  epoch : Int
  ver : ByteArray
  rel : ByteArray
  arch : Int
  vendor : ByteArray
  provA : Option Addr
  provC : Nat
  prov : List Dp
  reqA : Option Addr
  reqC : Nat
  req : List RV
  conA : Option Addr
  conC : Nat
  con : List RV
  obsA : Option Addr
  obsC : Nat
  obs : List Dp
  rcmA : Option Addr
  rcmC : Nat
  rcm : List RV
  supA : Option Addr
  supC : Nat
  sup : List RV
  sugA : Option Addr
  sugC : Nat
  sug : List RV
  enhA : Option Addr
  enhC : Nat
  enh : List RV
  filesA : Option Addr
  filesC : Nat
  files : List ByteArray
def Pk.val (p : Pk) : Value := .agg #[.string p.name, .int .i64 p.epoch, .string p.ver, .string p.rel, .int .u8 p.arch, .string p.vendor, .slice p.provA p.prov.length p.provC, .slice p.reqA p.req.length p.reqC, .slice p.conA p.con.length p.conC, .slice p.obsA p.obs.length p.obsC, .slice p.rcmA p.rcm.length p.rcmC, .slice p.supA p.sup.length p.supC, .slice p.sugA p.sug.length p.sugC, .slice p.enhA p.enh.length p.enhC, .slice p.filesA p.files.length p.filesC]
def Pk.evr (p : Pk) : Evr := ⟨p.epoch, p.ver.toList, p.rel.toList⟩
def Dp.small (d : Dp) : Prop := d.name.length ≤ 500 ∧ d.evr.ver.length ≤ 500 ∧ d.evr.rel.length ≤ 500
/-- small enough for a statement -/
structure Pk.small (p : Pk) : Prop where
  name : p.name.size ≤ 1000
  ver : p.ver.size ≤ 1000
  rel : p.rel.size ≤ 1000
  vendor : p.vendor.size ≤ 1000
  provN : p.prov.length ≤ 100
  obsN : p.obs.length ≤ 100
  filesN : p.files.length ≤ 100
  prov : ∀ d ∈ p.prov, d.small
  obs : ∀ d ∈ p.obs, d.small
  files : ∀ s ∈ p.files, s.size ≤ 500
/-- it lies in blocks below B -/
structure Pk.Laid (B : Nat) (W : World) (p : Pk) : Prop where
  ar : (Lit.int .u8 p.arch).wf = true
  ep : (Lit.int .i64 p.epoch).wf = true
  n0 : p.name.size ≤ maxLen
  n1 : p.ver.size ≤ maxLen
  n2 : p.rel.size ≤ maxLen
  n3 : p.vendor.size ≤ maxLen
  prov : Rd encD 5 B p.provA p.provC p.prov W
  provW : ∀ d ∈ p.prov, d.wf
  obs : Rd encD 5 B p.obsA p.obsC p.obs W
  obsW : ∀ d ∈ p.obs, d.wf
  files : Rd (fun s => [Value.string s]) 1 B p.filesA p.filesC p.files W
  filesW : ∀ s ∈ p.files, s.size ≤ maxLen
  req : RRow B W p.reqA p.reqC p.req
  con : RRow B W p.conA p.conC p.con
  rcm : RRow B W p.rcmA p.rcmC p.rcm
  sup : RRow B W p.supA p.supC p.sup
  sug : RRow B W p.sugA p.sugC p.sug
  enh : RRow B W p.enhA p.enhC p.enh
theorem Pk.Laid.below {B : Nat} {W W' : World} {p : Pk} (h : p.Laid B W) (hb : Below B W W') : p.Laid B W' :=
  { h with prov := h.prov.below hb, obs := h.obs.below hb, files := h.files.below hb, req := h.req.below hb, con := h.con.below hb, rcm := h.rcm.below hb, sup := h.sup.below hb, sug := h.sug.below hb, enh := h.enh.below hb }
theorem Pk.Laid.more {B B' : Nat} {W : World} {p : Pk} (h : p.Laid B W) (hb : B ≤ B') : p.Laid B' W :=
  { h with prov := h.prov.more hb, obs := h.obs.more hb, files := h.files.more hb, req := h.req.more hb, con := h.con.more hb, rcm := h.rcm.more hb, sup := h.sup.more hb, sug := h.sug.more hb, enh := h.enh.more hb }
theorem encD_len (d : Dp) : (encD d).length = 5 := rfl
theorem encD_one (d : Dp) : ∀ u ∈ encD d, u.oneCell' = true := by
  intro u hu
  simp only [encD, List.mem_cons, List.not_mem_nil, or_false] at hu
  rcases hu with rfl | rfl | rfl | rfl | rfl <;> rfl
end
end Go.Proofs.YtcpjignlhlcnpaaDoor
