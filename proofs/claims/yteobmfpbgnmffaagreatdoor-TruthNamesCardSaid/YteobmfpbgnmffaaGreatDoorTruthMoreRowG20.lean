/- StMem, PkLessR, PkClone -/
import Derived.Test.YteobmfpbgnmffaaGreatDoorTruthMoreRowG09
import Derived.Test.YteobmfpbgnmffaaGreatDoorTruthMoreRowG19
import Derived.Test.YteobmfpbgnmffaaGreatDoorTruthMoreRowG10
set_option linter.unusedSimpArgs false
set_option linter.unusedVariables false
namespace Go.Proofs.YteobmfpbgnmffaaGreatDoor
section
/- Rows of packages, and of repositories, as they lie. -/



open Go.RowKit Go.Shelf
set_option linter.unusedVariables false

theorem cells_len (p : Pk) : p.cells.length = 15 := rfl
/-- a row of packages -/
def PRow (B : Nat) (W : World) (A : Option Addr) (cap : Nat) (l : List Pk) : Prop := Rd Pk.cells 15 B A cap l W ∧ ∀ p ∈ l, p.Laid B W
theorem PRow.below {B : Nat} {W W' : World} {A : Option Addr} {cap : Nat} {l : List Pk} (h : PRow B W A cap l) (hb : Below B W W') : PRow B W' A cap l := ⟨h.1.below hb, fun p hp => (h.2 p hp).below hb⟩
theorem PRow.more {B B' : Nat} {W : World} {A : Option Addr} {cap : Nat} {l : List Pk} (h : PRow B W A cap l) (hb : B ≤ B') : PRow B' W A cap l := ⟨h.1.more hb, fun p hp => (h.2 p hp).more hb⟩
theorem PRow.calls {W W' : World} {A : Option Addr} {cap : Nat} {l : List Pk} (h : PRow W.heap.size W A cap l) (hb : Below W.heap.size W W') : PRow W'.heap.size W' A cap l := (h.below hb).more hb.size
theorem PRow.at_ {B : Nat} {W : World} {A : Option Addr} {cap : Nat} {l : List Pk} (h : PRow B W A cap l) {k : Nat} (hk : k < l.length) : ∃ b o, A = some ⟨b, o, none⟩ ∧ b < B ∧ W.cell? ⟨b, o + k * 15, none⟩ = some (.string l[k].name) ∧ W.cell? ⟨b, o + k * 15 + 1, none⟩ = some (.int .i64 l[k].epoch) ∧ W.cell? ⟨b, o + k * 15 + 2, none⟩ = some (.string l[k].ver) ∧ W.cell? ⟨b, o + k * 15 + 3, none⟩ = some (.string l[k].rel) ∧ W.cell? ⟨b, o + k * 15 + 4, none⟩ = some (.int .u8 l[k].arch) ∧ W.cell? ⟨b, o + k * 15 + 5, none⟩ = some (.string l[k].vendor) ∧ W.cell? ⟨b, o + k * 15 + 6, none⟩ = some (.slice l[k].provA l[k].prov.length l[k].provC) ∧ W.cell? ⟨b, o + k * 15 + 7, none⟩ = some (.slice l[k].reqA l[k].req.length l[k].reqC) ∧ W.cell? ⟨b, o + k * 15 + 8, none⟩ = some (.slice l[k].conA l[k].con.length l[k].conC) ∧ W.cell? ⟨b, o + k * 15 + 9, none⟩ = some (.slice l[k].obsA l[k].obs.length l[k].obsC) ∧ W.cell? ⟨b, o + k * 15 + 10, none⟩ = some (.slice l[k].rcmA l[k].rcm.length l[k].rcmC) ∧ W.cell? ⟨b, o + k * 15 + 11, none⟩ = some (.slice l[k].supA l[k].sup.length l[k].supC) ∧ W.cell? ⟨b, o + k * 15 + 12, none⟩ = some (.slice l[k].sugA l[k].sug.length l[k].sugC) ∧ W.cell? ⟨b, o + k * 15 + 13, none⟩ = some (.slice l[k].enhA l[k].enh.length l[k].enhC) ∧ W.cell? ⟨b, o + k * 15 + 14, none⟩ = some (.slice l[k].filesA l[k].files.length l[k].filesC) := by
  obtain ⟨b, o, e, hb, hc⟩ := h.1.cells hk
  exact ⟨b, o, e, hb, hc 0 _ rfl, hc 1 _ rfl, hc 2 _ rfl, hc 3 _ rfl, hc 4 _ rfl, hc 5 _ rfl, hc 6 _ rfl, hc 7 _ rfl, hc 8 _ rfl, hc 9 _ rfl, hc 10 _ rfl, hc 11 _ rfl, hc 12 _ rfl, hc 13 _ rfl, hc 14 _ rfl⟩
/-- a repository as it lies -/
structure Rp where
  prio : Int
  A : Option Addr
  c : Nat
  pk : List Pk
def Rp.cells (r : Rp) : List Value := [.int .i64 r.prio, .slice r.A r.pk.length r.c]
theorem rcells_len (r : Rp) : r.cells.length = 2 := rfl
/-- a row of repositories -/
structure RpRow (B : Nat) (W : World) (A : Option Addr) (cap : Nat) (l : List Rp) : Prop where
  row : Rd Rp.cells 2 B A cap l W
  pks : ∀ r ∈ l, PRow B W r.A r.c r.pk
  wf : ∀ r ∈ l, (Lit.int .i64 r.prio).wf = true
  cnt : ∀ r ∈ l, r.pk.length ≤ 1000000000000000
theorem RpRow.below {B : Nat} {W W' : World} {A : Option Addr} {cap : Nat} {l : List Rp} (h : RpRow B W A cap l) (hb : Below B W W') : RpRow B W' A cap l := ⟨h.row.below hb, fun p hp => (h.pks p hp).below hb, h.wf, h.cnt⟩
theorem RpRow.more {B B' : Nat} {W : World} {A : Option Addr} {cap : Nat} {l : List Rp} (h : RpRow B W A cap l) (hb : B ≤ B') : RpRow B' W A cap l := ⟨h.row.more hb, fun p hp => (h.pks p hp).more hb, h.wf, h.cnt⟩
theorem RpRow.calls {W W' : World} {A : Option Addr} {cap : Nat} {l : List Rp} (h : RpRow W.heap.size W A cap l) (hb : Below W.heap.size W W') : RpRow W'.heap.size W' A cap l := (h.below hb).more hb.size
theorem RpRow.at_ {B : Nat} {W : World} {A : Option Addr} {cap : Nat} {l : List Rp} (h : RpRow B W A cap l) {k : Nat} (hk : k < l.length) : ∃ b o, A = some ⟨b, o, none⟩ ∧ b < B ∧ W.cell? ⟨b, o + k * 2, none⟩ = some (.int .i64 l[k].prio) ∧ W.cell? ⟨b, o + k * 2 + 1, none⟩ = some (.slice l[k].A l[k].pk.length l[k].c) := by
  obtain ⟨b, o, e, hb, hc⟩ := h.row.cells hk
  exact ⟨b, o, e, hb, hc 0 _ rfl, hc 1 _ rfl⟩
/-- how many packages repositories have -/
def pksOf (l : List Rp) : Nat := (l.map fun r => r.pk.length).sum
theorem pksOf_take (l : List Rp) (k : Nat) (hk : k < l.length) : pksOf (l.take (k + 1)) = pksOf (l.take k) + l[k].pk.length := by
  unfold pksOf
  rw [List.take_succ_eq_append_getElem hk, List.map_append, List.sum_append]
  simp
/-- not more than a statement goes over -/
structure Narrow (repos : List Rp) (ins : List Pk) (k : Int) : Prop where
  nr : repos.length ≤ 30
  ni : ins.length ≤ 30
  nk : k ≤ 200
  si : ∀ p ∈ ins, p.slim
  sr : ∀ r ∈ repos, ∀ p ∈ r.pk, p.slim
  all : ins.length + pksOf repos ≤ 50
end
section
/- A package without one of its dependencies: its box, and what it may be. -/



open Go.RowKit Go.Shelf
set_option linter.unusedVariables false

section
variable {α : Type} {enc : α → List Value} {size B : Nat} {W : World}
end
def offR : Nat → Nat | 0 => 7 | 1 => 8 | 2 => 10 | 3 => 11 | 4 => 12 | _ => 13
def Pk.rA (q : Pk) : Nat → Option Addr | 0 => q.reqA | 1 => q.conA | 2 => q.rcmA | 3 => q.supA | 4 => q.sugA | _ => q.enhA
def Pk.rC (q : Pk) : Nat → Nat | 0 => q.reqC | 1 => q.conC | 2 => q.rcmC | 3 => q.supC | 4 => q.sugC | _ => q.enhC
def Pk.setR (q : Pk) (i : Nat) (A : Option Addr) (c : Nat) (l : List RV) : Pk := match i with
  | 0 => { q with reqA := A, reqC := c, req := l }
  | 1 => { q with conA := A, conC := c, con := l }
  | 2 => { q with rcmA := A, rcmC := c, rcm := l }
  | 3 => { q with supA := A, supC := c, sup := l }
  | 4 => { q with sugA := A, sugC := c, sug := l }
  | _ => { q with enhA := A, enhC := c, enh := l }
theorem box_row {cb : Nat} {q : Pk} {W : World} (h : Box15 cb q W) {i : Nat} (hi : i < 6) : W.cell? ⟨cb, offR i, none⟩ = some (.slice (q.rA i) (sixL q i).length (q.rC i)) := by
  obtain ⟨⟨_, c0, c1, c2, c3, c4, c5, c6, c7, c8, c9, c10, c11, c12, c13, c14⟩, _⟩ := h
  obtain rfl | rfl | rfl | rfl | rfl | rfl : i = 0 ∨ i = 1 ∨ i = 2 ∨ i = 3 ∨ i = 4 ∨ i = 5 := by omega
  · exact c7
  · exact c8
  · exact c10
  · exact c11
  · exact c12
  · exact c13
theorem offR_lt (i : Nat) : offR i < 15 := by unfold offR; split <;> omega
theorem laid_row {B : Nat} {q : Pk} {W : World} (h : q.Laid B W) {i : Nat} (hi : i < 6) : RRow B W (q.rA i) (q.rC i) (sixL q i) := by
  obtain rfl | rfl | rfl | rfl | rfl | rfl : i = 0 ∨ i = 1 ∨ i = 2 ∨ i = 3 ∨ i = 4 ∨ i = 5 := by omega
  · exact h.req
  · exact h.con
  · exact h.rcm
  · exact h.sup
  · exact h.sug
  · exact h.enh
theorem Box15.set_req {cb : Nat} {q : Pk} {W : World} (h : Box15 cb q W) (A : Option Addr) (c : Nat) (l : List RV) : Box15 cb { q with reqA := A, reqC := c, req := l } (W.setCell ⟨cb, 7, none⟩ (.slice A l.length c)) := by
  obtain ⟨⟨hl, c0, c1, c2, c3, c4, c5, c6, c7, c8, c9, c10, c11, c12, c13, c14⟩, hf, _⟩ := h
  have hz : cb < (W.setCell ⟨cb, 7, none⟩ (.slice A l.length c)).heap.size := by simpa [World.setCell] using hl
  exact ⟨⟨hz, (sc_other (by simp)).trans c0, (sc_other (by simp)).trans c1, (sc_other (by simp)).trans c2, (sc_other (by simp)).trans c3, (sc_other (by simp)).trans c4, (sc_other (by simp)).trans c5, (sc_other (by simp)).trans c6, sc_same c7, (sc_other (by simp)).trans c8, (sc_other (by simp)).trans c9, (sc_other (by simp)).trans c10, (sc_other (by simp)).trans c11, (sc_other (by simp)).trans c12, (sc_other (by simp)).trans c13, (sc_other (by simp)).trans c14⟩, fun i hi => by rw [World.frozen?_setCell]; exact hf i hi, hz⟩
theorem Box15.set_con {cb : Nat} {q : Pk} {W : World} (h : Box15 cb q W) (A : Option Addr) (c : Nat) (l : List RV) : Box15 cb { q with conA := A, conC := c, con := l } (W.setCell ⟨cb, 8, none⟩ (.slice A l.length c)) := by
  obtain ⟨⟨hl, c0, c1, c2, c3, c4, c5, c6, c7, c8, c9, c10, c11, c12, c13, c14⟩, hf, _⟩ := h
  have hz : cb < (W.setCell ⟨cb, 8, none⟩ (.slice A l.length c)).heap.size := by simpa [World.setCell] using hl
  exact ⟨⟨hz, (sc_other (by simp)).trans c0, (sc_other (by simp)).trans c1, (sc_other (by simp)).trans c2, (sc_other (by simp)).trans c3, (sc_other (by simp)).trans c4, (sc_other (by simp)).trans c5, (sc_other (by simp)).trans c6, (sc_other (by simp)).trans c7, sc_same c8, (sc_other (by simp)).trans c9, (sc_other (by simp)).trans c10, (sc_other (by simp)).trans c11, (sc_other (by simp)).trans c12, (sc_other (by simp)).trans c13, (sc_other (by simp)).trans c14⟩, fun i hi => by rw [World.frozen?_setCell]; exact hf i hi, hz⟩
theorem Box15.set_rcm {cb : Nat} {q : Pk} {W : World} (h : Box15 cb q W) (A : Option Addr) (c : Nat) (l : List RV) : Box15 cb { q with rcmA := A, rcmC := c, rcm := l } (W.setCell ⟨cb, 10, none⟩ (.slice A l.length c)) := by
  obtain ⟨⟨hl, c0, c1, c2, c3, c4, c5, c6, c7, c8, c9, c10, c11, c12, c13, c14⟩, hf, _⟩ := h
  have hz : cb < (W.setCell ⟨cb, 10, none⟩ (.slice A l.length c)).heap.size := by simpa [World.setCell] using hl
  exact ⟨⟨hz, (sc_other (by simp)).trans c0, (sc_other (by simp)).trans c1, (sc_other (by simp)).trans c2, (sc_other (by simp)).trans c3, (sc_other (by simp)).trans c4, (sc_other (by simp)).trans c5, (sc_other (by simp)).trans c6, (sc_other (by simp)).trans c7, (sc_other (by simp)).trans c8, (sc_other (by simp)).trans c9, sc_same c10, (sc_other (by simp)).trans c11, (sc_other (by simp)).trans c12, (sc_other (by simp)).trans c13, (sc_other (by simp)).trans c14⟩, fun i hi => by rw [World.frozen?_setCell]; exact hf i hi, hz⟩
theorem Box15.set_sup {cb : Nat} {q : Pk} {W : World} (h : Box15 cb q W) (A : Option Addr) (c : Nat) (l : List RV) : Box15 cb { q with supA := A, supC := c, sup := l } (W.setCell ⟨cb, 11, none⟩ (.slice A l.length c)) := by
  obtain ⟨⟨hl, c0, c1, c2, c3, c4, c5, c6, c7, c8, c9, c10, c11, c12, c13, c14⟩, hf, _⟩ := h
  have hz : cb < (W.setCell ⟨cb, 11, none⟩ (.slice A l.length c)).heap.size := by simpa [World.setCell] using hl
  exact ⟨⟨hz, (sc_other (by simp)).trans c0, (sc_other (by simp)).trans c1, (sc_other (by simp)).trans c2, (sc_other (by simp)).trans c3, (sc_other (by simp)).trans c4, (sc_other (by simp)).trans c5, (sc_other (by simp)).trans c6, (sc_other (by simp)).trans c7, (sc_other (by simp)).trans c8, (sc_other (by simp)).trans c9, (sc_other (by simp)).trans c10, sc_same c11, (sc_other (by simp)).trans c12, (sc_other (by simp)).trans c13, (sc_other (by simp)).trans c14⟩, fun i hi => by rw [World.frozen?_setCell]; exact hf i hi, hz⟩
theorem Box15.set_sug {cb : Nat} {q : Pk} {W : World} (h : Box15 cb q W) (A : Option Addr) (c : Nat) (l : List RV) : Box15 cb { q with sugA := A, sugC := c, sug := l } (W.setCell ⟨cb, 12, none⟩ (.slice A l.length c)) := by
  obtain ⟨⟨hl, c0, c1, c2, c3, c4, c5, c6, c7, c8, c9, c10, c11, c12, c13, c14⟩, hf, _⟩ := h
  have hz : cb < (W.setCell ⟨cb, 12, none⟩ (.slice A l.length c)).heap.size := by simpa [World.setCell] using hl
  exact ⟨⟨hz, (sc_other (by simp)).trans c0, (sc_other (by simp)).trans c1, (sc_other (by simp)).trans c2, (sc_other (by simp)).trans c3, (sc_other (by simp)).trans c4, (sc_other (by simp)).trans c5, (sc_other (by simp)).trans c6, (sc_other (by simp)).trans c7, (sc_other (by simp)).trans c8, (sc_other (by simp)).trans c9, (sc_other (by simp)).trans c10, (sc_other (by simp)).trans c11, sc_same c12, (sc_other (by simp)).trans c13, (sc_other (by simp)).trans c14⟩, fun i hi => by rw [World.frozen?_setCell]; exact hf i hi, hz⟩
theorem Box15.set_enh {cb : Nat} {q : Pk} {W : World} (h : Box15 cb q W) (A : Option Addr) (c : Nat) (l : List RV) : Box15 cb { q with enhA := A, enhC := c, enh := l } (W.setCell ⟨cb, 13, none⟩ (.slice A l.length c)) := by
  obtain ⟨⟨hl, c0, c1, c2, c3, c4, c5, c6, c7, c8, c9, c10, c11, c12, c13, c14⟩, hf, _⟩ := h
  have hz : cb < (W.setCell ⟨cb, 13, none⟩ (.slice A l.length c)).heap.size := by simpa [World.setCell] using hl
  exact ⟨⟨hz, (sc_other (by simp)).trans c0, (sc_other (by simp)).trans c1, (sc_other (by simp)).trans c2, (sc_other (by simp)).trans c3, (sc_other (by simp)).trans c4, (sc_other (by simp)).trans c5, (sc_other (by simp)).trans c6, (sc_other (by simp)).trans c7, (sc_other (by simp)).trans c8, (sc_other (by simp)).trans c9, (sc_other (by simp)).trans c10, (sc_other (by simp)).trans c11, (sc_other (by simp)).trans c12, sc_same c13, (sc_other (by simp)).trans c14⟩, fun i hi => by rw [World.frozen?_setCell]; exact hf i hi, hz⟩
theorem Box15.set_prov {cb : Nat} {q : Pk} {W : World} (h : Box15 cb q W) (A : Option Addr) (c : Nat) (l : List Dp) : Box15 cb { q with provA := A, provC := c, prov := l } (W.setCell ⟨cb, 6, none⟩ (.slice A l.length c)) := by
  obtain ⟨⟨hl, c0, c1, c2, c3, c4, c5, c6, c7, c8, c9, c10, c11, c12, c13, c14⟩, hf, _⟩ := h
  have hz : cb < (W.setCell ⟨cb, 6, none⟩ (.slice A l.length c)).heap.size := by simpa [World.setCell] using hl
  exact ⟨⟨hz, (sc_other (by simp)).trans c0, (sc_other (by simp)).trans c1, (sc_other (by simp)).trans c2, (sc_other (by simp)).trans c3, (sc_other (by simp)).trans c4, (sc_other (by simp)).trans c5, sc_same c6, (sc_other (by simp)).trans c7, (sc_other (by simp)).trans c8, (sc_other (by simp)).trans c9, (sc_other (by simp)).trans c10, (sc_other (by simp)).trans c11, (sc_other (by simp)).trans c12, (sc_other (by simp)).trans c13, (sc_other (by simp)).trans c14⟩, fun i hi => by rw [World.frozen?_setCell]; exact hf i hi, hz⟩
theorem Box15.set_obs {cb : Nat} {q : Pk} {W : World} (h : Box15 cb q W) (A : Option Addr) (c : Nat) (l : List Dp) : Box15 cb { q with obsA := A, obsC := c, obs := l } (W.setCell ⟨cb, 9, none⟩ (.slice A l.length c)) := by
  obtain ⟨⟨hl, c0, c1, c2, c3, c4, c5, c6, c7, c8, c9, c10, c11, c12, c13, c14⟩, hf, _⟩ := h
  have hz : cb < (W.setCell ⟨cb, 9, none⟩ (.slice A l.length c)).heap.size := by simpa [World.setCell] using hl
  exact ⟨⟨hz, (sc_other (by simp)).trans c0, (sc_other (by simp)).trans c1, (sc_other (by simp)).trans c2, (sc_other (by simp)).trans c3, (sc_other (by simp)).trans c4, (sc_other (by simp)).trans c5, (sc_other (by simp)).trans c6, (sc_other (by simp)).trans c7, (sc_other (by simp)).trans c8, sc_same c9, (sc_other (by simp)).trans c10, (sc_other (by simp)).trans c11, (sc_other (by simp)).trans c12, (sc_other (by simp)).trans c13, (sc_other (by simp)).trans c14⟩, fun i hi => by rw [World.frozen?_setCell]; exact hf i hi, hz⟩
theorem Box15.set_files {cb : Nat} {q : Pk} {W : World} (h : Box15 cb q W) (A : Option Addr) (c : Nat) (l : List ByteArray) : Box15 cb { q with filesA := A, filesC := c, files := l } (W.setCell ⟨cb, 14, none⟩ (.slice A l.length c)) := by
  obtain ⟨⟨hl, c0, c1, c2, c3, c4, c5, c6, c7, c8, c9, c10, c11, c12, c13, c14⟩, hf, _⟩ := h
  have hz : cb < (W.setCell ⟨cb, 14, none⟩ (.slice A l.length c)).heap.size := by simpa [World.setCell] using hl
  exact ⟨⟨hz, (sc_other (by simp)).trans c0, (sc_other (by simp)).trans c1, (sc_other (by simp)).trans c2, (sc_other (by simp)).trans c3, (sc_other (by simp)).trans c4, (sc_other (by simp)).trans c5, (sc_other (by simp)).trans c6, (sc_other (by simp)).trans c7, (sc_other (by simp)).trans c8, (sc_other (by simp)).trans c9, (sc_other (by simp)).trans c10, (sc_other (by simp)).trans c11, (sc_other (by simp)).trans c12, (sc_other (by simp)).trans c13, sc_same c14⟩, fun i hi => by rw [World.frozen?_setCell]; exact hf i hi, hz⟩
theorem Box15.setR {cb : Nat} {q : Pk} {W : World} (h : Box15 cb q W) (A : Option Addr) (c : Nat) (l : List RV) {i : Nat} (hi : i < 6) : Box15 cb (q.setR i A c l) (W.setCell ⟨cb, offR i, none⟩ (.slice A l.length c)) := by
  obtain rfl | rfl | rfl | rfl | rfl | rfl : i = 0 ∨ i = 1 ∨ i = 2 ∨ i = 3 ∨ i = 4 ∨ i = 5 := by omega
  · exact h.set_req A c l
  · exact h.set_con A c l
  · exact h.set_rcm A c l
  · exact h.set_sup A c l
  · exact h.set_sug A c l
  · exact h.set_enh A c l
section
variable {α : Type} {enc : α → List Value} {size cb : Nat} {A : Option Addr} {c : Nat} {l : List α} {W W' : World}
end
/-- pointers to the copy's lists -/
def PtrAt (gp cb : Nat) (offs : Nat → Nat) (n : Nat) (W : World) : Prop := gp < W.heap.size ∧ gp ≠ cb ∧ ∀ i, i < n → W.cell? ⟨gp, i, none⟩ = some (.pointer (some ⟨cb, offs i, none⟩))
end
section
/- Walks: slices.Clone of dependencies, of texts, of rich dependencies: a row of the call's own, or nil. -/



open Go.RowKit Go.Shelf
set_option linter.unusedVariables false

set_option maxRecDepth 100000 in
set_option maxHeartbeats 4000000 in
theorem pkclone_dep (A : Option Addr) (cap : Nat) (l : List Dp) (w : World) (h : Rd encD 5 w.heap.size A cap l w) (hl : l.length ≤ 1000000) : Calls Tryz.prog 70 #[.slice A l.length cap] w fun e w' => ∃ A' c', e = .returned (.slice A' l.length c') ∧ Own encD 5 w.heap.size 37 (.slice A' l.length c') l w' ∧ Below w.heap.size w w' := by
  have q : ∀ (w : World) (a : Option Addr) (n c n' c' : Nat), (binOp .eql 24 (.slice a n c) (.slice none n' c')).run Tryz.prog w = .ok (.bool a.isNone) w := fun w a n c n' c' => Lib.run_eql_slice_nil w _ _ a n c n' c' (by rfl)
  have H := Lib.hid h
  have HL := Lib.hid hl
  cases A with
  | none =>
    have hlen : l.length = 0 := by
      cases l with
      | nil => rfl
      | cons x r => obtain ⟨b, o, e, _⟩ := h.2.2 0 (by simp); cases e
    obtain rfl := List.eq_nil_of_length_eq_zero hlen
    clear h hl hlen
    go_enter Tryz.func70, Tryz.ntmps70
    go_wp2_with fail
    go_ret
    exact ⟨none, 0, rfl, Own.nil_ _ _ _, Below.refl _ _⟩
  | some ad =>
    obtain ⟨n, hn⟩ : ∃ n, n = l.length := ⟨_, rfl⟩
    have HN := Lib.hid hn
    rw [← hn]
    clear h hl hn
    go_enter Tryz.func70, Tryz.ntmps70
    go_wp2_with (at_builtin; refine wpList_append_rd _ rfl _ _ 24 rfl w.heap.size 37 _ _ 5 _ (by rfl) (by rfl) (by rfl) (by rfl) (by rfl) (by rfl) (by decide) encD_len encD_one _ 0 [] rfl (World.ownsRow_made w #[] 0 (Nat.le_refl _) (Nat.zero_le _) rfl) w.heap.size (some ad) cap l n HN.out rfl (H.out.alloc (Nat.le_refl _) _) (by have := HL.out; omega) (by decide) (by simp) ?_; intro v1 w1 ho1 hg1 hw1)
    go_ret
    have hO : Own encD 5 w.heap.size 37 v1 l w1 := by simpa [Own] using ho1
    obtain ⟨A', c', hv⟩ := hO.shape
    exact ⟨A', c', by rw [HN.out]; exact congrArg Ending.returned hv, by rw [HN.out, ← hv]; exact hO, ((Below.refl _ w).alloc (Nat.le_refl _) _).grown hg1 (by simp) (by intro k hk; cases hk; exact Nat.le_refl _)⟩
set_option maxRecDepth 100000 in
set_option maxHeartbeats 4000000 in
theorem pkclone_str (A : Option Addr) (cap : Nat) (l : List ByteArray) (w : World) (h : Rd encT1 1 w.heap.size A cap l w) (hl : l.length ≤ 1000000) : Calls Tryz.prog 71 #[.slice A l.length cap] w fun e w' => ∃ A' c', e = .returned (.slice A' l.length c') ∧ Own encT1 1 w.heap.size 9 (.slice A' l.length c') l w' ∧ Below w.heap.size w w' := by
  have q : ∀ (w : World) (a : Option Addr) (n c n' c' : Nat), (binOp .eql 26 (.slice a n c) (.slice none n' c')).run Tryz.prog w = .ok (.bool a.isNone) w := fun w a n c n' c' => Lib.run_eql_slice_nil w _ _ a n c n' c' (by rfl)
  have H := Lib.hid h
  have HL := Lib.hid hl
  cases A with
  | none =>
    have hlen : l.length = 0 := by
      cases l with
      | nil => rfl
      | cons x r => obtain ⟨b, o, e, _⟩ := h.2.2 0 (by simp); cases e
    obtain rfl := List.eq_nil_of_length_eq_zero hlen
    clear h hl hlen
    go_enter Tryz.func71, Tryz.ntmps71
    go_wp2_with fail
    go_ret
    exact ⟨none, 0, rfl, Own.nil_ _ _ _, Below.refl _ _⟩
  | some ad =>
    obtain ⟨n, hn⟩ : ∃ n, n = l.length := ⟨_, rfl⟩
    have HN := Lib.hid hn
    rw [← hn]
    clear h hl hn
    go_enter Tryz.func71, Tryz.ntmps71
    go_wp2_with (at_builtin; refine wpList_append_rd _ rfl _ _ 26 rfl w.heap.size 9 _ _ 1 _ (by rfl) (by rfl) (by rfl) (by rfl) (by rfl) (by rfl) (by decide) encT1_len encT1_one _ 0 [] rfl (World.ownsRow_made w #[] 0 (Nat.le_refl _) (Nat.zero_le _) rfl) w.heap.size (some ad) cap l n HN.out rfl (H.out.alloc (Nat.le_refl _) _) (by have := HL.out; omega) (by decide) (by simp) ?_; intro v1 w1 ho1 hg1 hw1)
    go_ret
    have hO : Own encT1 1 w.heap.size 9 v1 l w1 := by simpa [Own] using ho1
    obtain ⟨A', c', hv⟩ := hO.shape
    exact ⟨A', c', by rw [HN.out]; exact congrArg Ending.returned hv, by rw [HN.out, ← hv]; exact hO, ((Below.refl _ w).alloc (Nat.le_refl _) _).grown hg1 (by simp) (by intro k hk; cases hk; exact Nat.le_refl _)⟩
set_option maxRecDepth 100000 in
set_option maxHeartbeats 4000000 in
theorem pkclone_rich (A : Option Addr) (cap : Nat) (l : List RV) (w : World) (h : Rd encR 7 w.heap.size A cap l w) (hl : l.length ≤ 1000000) : Calls Tryz.prog 72 #[.slice A l.length cap] w fun e w' => ∃ A' c', e = .returned (.slice A' l.length c') ∧ Own encR 7 w.heap.size 39 (.slice A' l.length c') l w' ∧ Below w.heap.size w w' := by
  have q : ∀ (w : World) (a : Option Addr) (n c n' c' : Nat), (binOp .eql 25 (.slice a n c) (.slice none n' c')).run Tryz.prog w = .ok (.bool a.isNone) w := fun w a n c n' c' => Lib.run_eql_slice_nil w _ _ a n c n' c' (by rfl)
  have H := Lib.hid h
  have HL := Lib.hid hl
  cases A with
  | none =>
    have hlen : l.length = 0 := by
      cases l with
      | nil => rfl
      | cons x r => obtain ⟨b, o, e, _⟩ := h.2.2 0 (by simp); cases e
    obtain rfl := List.eq_nil_of_length_eq_zero hlen
    clear h hl hlen
    go_enter Tryz.func72, Tryz.ntmps72
    go_wp2_with fail
    go_ret
    exact ⟨none, 0, rfl, Own.nil_ _ _ _, Below.refl _ _⟩
  | some ad =>
    obtain ⟨n, hn⟩ : ∃ n, n = l.length := ⟨_, rfl⟩
    have HN := Lib.hid hn
    rw [← hn]
    clear h hl hn
    go_enter Tryz.func72, Tryz.ntmps72
    go_wp2_with (at_builtin; refine wpList_append_rd _ rfl _ _ 25 rfl w.heap.size 39 _ _ 7 _ (by rfl) (by rfl) (by rfl) (by rfl) (by rfl) (by rfl) (by decide) encR_len encR_one _ 0 [] rfl (World.ownsRow_made w #[] 0 (Nat.le_refl _) (Nat.zero_le _) rfl) w.heap.size (some ad) cap l n HN.out rfl (H.out.alloc (Nat.le_refl _) _) (by have := HL.out; omega) (by decide) (by simp) ?_; intro v1 w1 ho1 hg1 hw1)
    go_ret
    have hO : Own encR 7 w.heap.size 39 v1 l w1 := by simpa [Own] using ho1
    obtain ⟨A', c', hv⟩ := hO.shape
    exact ⟨A', c', by rw [HN.out]; exact congrArg Ending.returned hv, by rw [HN.out, ← hv]; exact hO, ((Below.refl _ w).alloc (Nat.le_refl _) _).grown hg1 (by simp) (by intro k hk; cases hk; exact Nat.le_refl _)⟩
end
end Go.Proofs.YteobmfpbgnmffaaGreatDoor
