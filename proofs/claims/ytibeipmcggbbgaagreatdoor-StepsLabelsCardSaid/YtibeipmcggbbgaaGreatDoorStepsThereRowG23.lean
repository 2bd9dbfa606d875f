/- PkLessR -/
import Derived.Test.YtibeipmcggbbgaaGreatDoorStepsThereRowG22
import Derived.Test.YtibeipmcggbbgaaGreatDoorStepsThereRowG09
set_option linter.unusedSimpArgs false
set_option linter.unusedVariables false
/- A package without one of its dependencies: its box, and what it may be. -/


namespace Go.Proofs.YtibeipmcggbbgaaGreatDoor
open Go.RowKit Go.Shelf
set_option linter.unusedVariables false

section
variable {α : Type} {enc : α → List Value} {size B : Nat} {W : World}
end
def offR : Nat → Nat | 0 => 7 | 1 => 8 | 2 => 10 | 3 => 11 | 4 => 12 | _ => 13
def Pk.rA (q : Pk) : Nat → Option Addr | 0 => q.reqA | 1 => q.conA | 2 => q.rcmA | 3 => q.supA | 4 => q.sugA | _ => q.enhA
def Pk.rC (q : Pk) : Nat → Nat | 0 => q.reqC | 1 => q.conC | 2 => q.rcmC | 3 => q.supC | 4 => q.sugC | _ => q.enhC
def Pk.setR (q : Pk) (i : Nat) (A : Option Addr) (c : Nat) (l : List RV) : Pk := match i with
  | 0 => { q with reqA := A, reqC := c, req := l }
  | 1 => { q with conA := A, conC := c, con := l }
  | 2 => { q with rcmA := A, rcmC := c, rcm := l }
  | 3 => { q with supA := A, supC := c, sup := l }
  | 4 => { q with sugA := A, sugC := c, sug := l }
  | _ => { q with enhA := A, enhC := c, enh := l }
theorem box_row {cb : Nat} {q : Pk} {W : World} (h : Box15 cb q W) {i : Nat} (hi : i < 6) : W.cell? ⟨cb, offR i, none⟩ = some (.slice (q.rA i) (sixL q i).length (q.rC i)) := by
  obtain ⟨⟨_, c0, c1, c2, c3, c4, c5, c6, c7, c8, c9, c10, c11, c12, c13, c14⟩, _⟩ := h
  obtain rfl | rfl | rfl | rfl | rfl | rfl : i = 0 ∨ i = 1 ∨ i = 2 ∨ i = 3 ∨ i = 4 ∨ i = 5 := by omega
  · exact c7
  · exact c8
  · exact c10
  · exact c11
  · exact c12
  · exact c13
theorem offR_lt (i : Nat) : offR i < 15 := by unfold offR; split <;> omega
theorem laid_row {B : Nat} {q : Pk} {W : World} (h : q.Laid B W) {i : Nat} (hi : i < 6) : RRow B W (q.rA i) (q.rC i) (sixL q i) := by
  obtain rfl | rfl | rfl | rfl | rfl | rfl : i = 0 ∨ i = 1 ∨ i = 2 ∨ i = 3 ∨ i = 4 ∨ i = 5 := by omega
  · exact h.req
  · exact h.con
  · exact h.rcm
  · exact h.sup
  · exact h.sug
  · exact h.enh
theorem Laid.setR {B : Nat} {q : Pk} {W : World} (h : q.Laid B W) {A : Option Addr} {c : Nat} {l : List RV} (hr : RRow B W A c l) {i : Nat} (hi : i < 6) : (q.setR i A c l).Laid B W := by
  obtain rfl | rfl | rfl | rfl | rfl | rfl : i = 0 ∨ i = 1 ∨ i = 2 ∨ i = 3 ∨ i = 4 ∨ i = 5 := by omega
  · exact { h with req := hr }
  · exact { h with con := hr }
  · exact { h with rcm := hr }
  · exact { h with sup := hr }
  · exact { h with sug := hr }
  · exact { h with enh := hr }
theorem Box15.set_req {cb : Nat} {q : Pk} {W : World} (h : Box15 cb q W) (A : Option Addr) (c : Nat) (l : List RV) : Box15 cb { q with reqA := A, reqC := c, req := l } (W.setCell ⟨cb, 7, none⟩ (.slice A l.length c)) := by
  obtain ⟨⟨hl, c0, c1, c2, c3, c4, c5, c6, c7, c8, c9, c10, c11, c12, c13, c14⟩, hf, _⟩ := h
  have hz : cb < (W.setCell ⟨cb, 7, none⟩ (.slice A l.length c)).heap.size := by simpa [World.setCell] using hl
  exact ⟨⟨hz, (sc_other (by simp)).trans c0, (sc_other (by simp)).trans c1, (sc_other (by simp)).trans c2, (sc_other (by simp)).trans c3, (sc_other (by simp)).trans c4, (sc_other (by simp)).trans c5, (sc_other (by simp)).trans c6, sc_same c7, (sc_other (by simp)).trans c8, (sc_other (by simp)).trans c9, (sc_other (by simp)).trans c10, (sc_other (by simp)).trans c11, (sc_other (by simp)).trans c12, (sc_other (by simp)).trans c13, (sc_other (by simp)).trans c14⟩, fun i hi => by rw [World.frozen?_setCell]; exact hf i hi, hz⟩
theorem Box15.set_con {cb : Nat} {q : Pk} {W : World} (h : Box15 cb q W) (A : Option Addr) (c : Nat) (l : List RV) : Box15 cb { q with conA := A, conC := c, con := l } (W.setCell ⟨cb, 8, none⟩ (.slice A l.length c)) := by
  obtain ⟨⟨hl, c0, c1, c2, c3, c4, c5, c6, c7, c8, c9, c10, c11, c12, c13, c14⟩, hf, _⟩ := h
  have hz : cb < (W.setCell ⟨cb, 8, none⟩ (.slice A l.length c)).heap.size := by simpa [World.setCell] using hl
  exact ⟨⟨hz, (sc_other (by simp)).trans c0, (sc_other (by simp)).trans c1, (sc_other (by simp)).trans c2, (sc_other (by simp)).trans c3, (sc_other (by simp)).trans c4, (sc_other (by simp)).trans c5, (sc_other (by simp)).trans c6, (sc_other (by simp)).trans c7, sc_same c8, (sc_other (by simp)).trans c9, (sc_other (by simp)).trans c10, (sc_other (by simp)).trans c11, (sc_other (by simp)).trans c12, (sc_other (by simp)).trans c13, (sc_other (by simp)).trans c14⟩, fun i hi => by rw [World.frozen?_setCell]; exact hf i hi, hz⟩
theorem Box15.set_rcm {cb : Nat} {q : Pk} {W : World} (h : Box15 cb q W) (A : Option Addr) (c : Nat) (l : List RV) : Box15 cb { q with rcmA := A, rcmC := c, rcm := l } (W.setCell ⟨cb, 10, none⟩ (.slice A l.length c)) := by
  obtain ⟨⟨hl, c0, c1, c2, c3, c4, c5, c6, c7, c8, c9, c10, c11, c12, c13, c14⟩, hf, _⟩ := h
  have hz : cb < (W.setCell ⟨cb, 10, none⟩ (.slice A l.length c)).heap.size := by simpa [World.setCell] using hl
  exact ⟨⟨hz, (sc_other (by simp)).trans c0, (sc_other (by simp)).trans c1, (sc_other (by simp)).trans c2, (sc_other (by simp)).trans c3, (sc_other (by simp)).trans c4, (sc_other (by simp)).trans c5, (sc_other (by simp)).trans c6, (sc_other (by simp)).trans c7, (sc_other (by simp)).trans c8, (sc_other (by simp)).trans c9, sc_same c10, (sc_other (by simp)).trans c11, (sc_other (by simp)).trans c12, (sc_other (by simp)).trans c13, (sc_other (by simp)).trans c14⟩, fun i hi => by rw [World.frozen?_setCell]; exact hf i hi, hz⟩
theorem Box15.set_sup {cb : Nat} {q : Pk} {W : World} (h : Box15 cb q W) (A : Option Addr) (c : Nat) (l : List RV) : Box15 cb { q with supA := A, supC := c, sup := l } (W.setCell ⟨cb, 11, none⟩ (.slice A l.length c)) := by
  obtain ⟨⟨hl, c0, c1, c2, c3, c4, c5, c6, c7, c8, c9, c10, c11, c12, c13, c14⟩, hf, _⟩ := h
  have hz : cb < (W.setCell ⟨cb, 11, none⟩ (.slice A l.length c)).heap.size := by simpa [World.setCell] using hl
  exact ⟨⟨hz, (sc_other (by simp)).trans c0, (sc_other (by simp)).trans c1, (sc_other (by simp)).trans c2, (sc_other (by simp)).trans c3, (sc_other (by simp)).trans c4, (sc_other (by simp)).trans c5, (sc_other (by simp)).trans c6, (sc_other (by simp)).trans c7, (sc_other (by simp)).trans c8, (sc_other (by simp)).trans c9, (sc_other (by simp)).trans c10, sc_same c11, (sc_other (by simp)).trans c12, (sc_other (by simp)).trans c13, (sc_other (by simp)).trans c14⟩, fun i hi => by rw [World.frozen?_setCell]; exact hf i hi, hz⟩
theorem Box15.set_sug {cb : Nat} {q : Pk} {W : World} (h : Box15 cb q W) (A : Option Addr) (c : Nat) (l : List RV) : Box15 cb { q with sugA := A, sugC := c, sug := l } (W.setCell ⟨cb, 12, none⟩ (.slice A l.length c)) := by
  obtain ⟨⟨hl, c0, c1, c2, c3, c4, c5, c6, c7, c8, c9, c10, c11, c12, c13, c14⟩, hf, _⟩ := h
  have hz : cb < (W.setCell ⟨cb, 12, none⟩ (.slice A l.length c)).heap.size := by simpa [World.setCell] using hl
  exact ⟨⟨hz, (sc_other (by simp)).trans c0, (sc_other (by simp)).trans c1, (sc_other (by simp)).trans c2, (sc_other (by simp)).trans c3, (sc_other (by simp)).trans c4, (sc_other (by simp)).trans c5, (sc_other (by simp)).trans c6, (sc_other (by simp)).trans c7, (sc_other (by simp)).trans c8, (sc_other (by simp)).trans c9, (sc_other (by simp)).trans c10, (sc_other (by simp)).trans c11, sc_same c12, (sc_other (by simp)).trans c13, (sc_other (by simp)).trans c14⟩, fun i hi => by rw [World.frozen?_setCell]; exact hf i hi, hz⟩
theorem Box15.set_enh {cb : Nat} {q : Pk} {W : World} (h : Box15 cb q W) (A : Option Addr) (c : Nat) (l : List RV) : Box15 cb { q with enhA := A, enhC := c, enh := l } (W.setCell ⟨cb, 13, none⟩ (.slice A l.length c)) := by
  obtain ⟨⟨hl, c0, c1, c2, c3, c4, c5, c6, c7, c8, c9, c10, c11, c12, c13, c14⟩, hf, _⟩ := h
  have hz : cb < (W.setCell ⟨cb, 13, none⟩ (.slice A l.length c)).heap.size := by simpa [World.setCell] using hl
  exact ⟨⟨hz, (sc_other (by simp)).trans c0, (sc_other (by simp)).trans c1, (sc_other (by simp)).trans c2, (sc_other (by simp)).trans c3, (sc_other (by simp)).trans c4, (sc_other (by simp)).trans c5, (sc_other (by simp)).trans c6, (sc_other (by simp)).trans c7, (sc_other (by simp)).trans c8, (sc_other (by simp)).trans c9, (sc_other (by simp)).trans c10, (sc_other (by simp)).trans c11, (sc_other (by simp)).trans c12, sc_same c13, (sc_other (by simp)).trans c14⟩, fun i hi => by rw [World.frozen?_setCell]; exact hf i hi, hz⟩
theorem Box15.set_prov {cb : Nat} {q : Pk} {W : World} (h : Box15 cb q W) (A : Option Addr) (c : Nat) (l : List Dp) : Box15 cb { q with provA := A, provC := c, prov := l } (W.setCell ⟨cb, 6, none⟩ (.slice A l.length c)) := by
  obtain ⟨⟨hl, c0, c1, c2, c3, c4, c5, c6, c7, c8, c9, c10, c11, c12, c13, c14⟩, hf, _⟩ := h
  have hz : cb < (W.setCell ⟨cb, 6, none⟩ (.slice A l.length c)).heap.size := by simpa [World.setCell] using hl
  exact ⟨⟨hz, (sc_other (by simp)).trans c0, (sc_other (by simp)).trans c1, (sc_other (by simp)).trans c2, (sc_other (by simp)).trans c3, (sc_other (by simp)).trans c4, (sc_other (by simp)).trans c5, sc_same c6, (sc_other (by simp)).trans c7, (sc_other (by simp)).trans c8, (sc_other (by simp)).trans c9, (sc_other (by simp)).trans c10, (sc_other (by simp)).trans c11, (sc_other (by simp)).trans c12, (sc_other (by simp)).trans c13, (sc_other (by simp)).trans c14⟩, fun i hi => by rw [World.frozen?_setCell]; exact hf i hi, hz⟩
theorem Box15.set_obs {cb : Nat} {q : Pk} {W : World} (h : Box15 cb q W) (A : Option Addr) (c : Nat) (l : List Dp) : Box15 cb { q with obsA := A, obsC := c, obs := l } (W.setCell ⟨cb, 9, none⟩ (.slice A l.length c)) := by
  obtain ⟨⟨hl, c0, c1, c2, c3, c4, c5, c6, c7, c8, c9, c10, c11, c12, c13, c14⟩, hf, _⟩ := h
  have hz : cb < (W.setCell ⟨cb, 9, none⟩ (.slice A l.length c)).heap.size := by simpa [World.setCell] using hl
  exact ⟨⟨hz, (sc_other (by simp)).trans c0, (sc_other (by simp)).trans c1, (sc_other (by simp)).trans c2, (sc_other (by simp)).trans c3, (sc_other (by simp)).trans c4, (sc_other (by simp)).trans c5, (sc_other (by simp)).trans c6, (sc_other (by simp)).trans c7, (sc_other (by simp)).trans c8, sc_same c9, (sc_other (by simp)).trans c10, (sc_other (by simp)).trans c11, (sc_other (by simp)).trans c12, (sc_other (by simp)).trans c13, (sc_other (by simp)).trans c14⟩, fun i hi => by rw [World.frozen?_setCell]; exact hf i hi, hz⟩
theorem Box15.set_files {cb : Nat} {q : Pk} {W : World} (h : Box15 cb q W) (A : Option Addr) (c : Nat) (l : List ByteArray) : Box15 cb { q with filesA := A, filesC := c, files := l } (W.setCell ⟨cb, 14, none⟩ (.slice A l.length c)) := by
  obtain ⟨⟨hl, c0, c1, c2, c3, c4, c5, c6, c7, c8, c9, c10, c11, c12, c13, c14⟩, hf, _⟩ := h
  have hz : cb < (W.setCell ⟨cb, 14, none⟩ (.slice A l.length c)).heap.size := by simpa [World.setCell] using hl
  exact ⟨⟨hz, (sc_other (by simp)).trans c0, (sc_other (by simp)).trans c1, (sc_other (by simp)).trans c2, (sc_other (by simp)).trans c3, (sc_other (by simp)).trans c4, (sc_other (by simp)).trans c5, (sc_other (by simp)).trans c6, (sc_other (by simp)).trans c7, (sc_other (by simp)).trans c8, (sc_other (by simp)).trans c9, (sc_other (by simp)).trans c10, (sc_other (by simp)).trans c11, (sc_other (by simp)).trans c12, (sc_other (by simp)).trans c13, sc_same c14⟩, fun i hi => by rw [World.frozen?_setCell]; exact hf i hi, hz⟩
theorem Box15.setR {cb : Nat} {q : Pk} {W : World} (h : Box15 cb q W) (A : Option Addr) (c : Nat) (l : List RV) {i : Nat} (hi : i < 6) : Box15 cb (q.setR i A c l) (W.setCell ⟨cb, offR i, none⟩ (.slice A l.length c)) := by
  obtain rfl | rfl | rfl | rfl | rfl | rfl : i = 0 ∨ i = 1 ∨ i = 2 ∨ i = 3 ∨ i = 4 ∨ i = 5 := by omega
  · exact h.set_req A c l
  · exact h.set_con A c l
  · exact h.set_rcm A c l
  · exact h.set_sup A c l
  · exact h.set_sug A c l
  · exact h.set_enh A c l
theorem may_setR {q : Pk} (h : mayP q = true) {i : Nat} (hi : i < 6) (A : Option Addr) (c : Nat) {l : List RV} (n : Nat) (hl : l = less (sixL q i) n) : mayP (q.setR i A c l) = true := by
  have hm := (mayP_iff q).1 h
  rw [mayP_iff]
  subst hl
  obtain rfl | rfl | rfl | rfl | rfl | rfl : i = 0 ∨ i = 1 ∨ i = 2 ∨ i = 3 ∨ i = 4 ∨ i = 5 := by omega
  · exact { hm with h0 := by show rl 1 (treeL (less q.req n)); rw [treeL_less]; exact rl_less hm.h0 n }
  · exact { hm with h1 := by show rl 2 (treeL (less q.con n)); rw [treeL_less]; exact rl_less hm.h1 n }
  · exact { hm with h2 := by show rl 1 (treeL (less q.rcm n)); rw [treeL_less]; exact rl_less hm.h2 n }
  · exact { hm with h3 := by show rl 3 (treeL (less q.sup n)); rw [treeL_less]; exact rl_less hm.h3 n }
  · exact { hm with h4 := by show rl 1 (treeL (less q.sug n)); rw [treeL_less]; exact rl_less hm.h4 n }
  · exact { hm with h5 := by show rl 3 (treeL (less q.enh n)); rw [treeL_less]; exact rl_less hm.h5 n }
theorem deep_setR {q : Pk} (h : q.deepOk) {i : Nat} (hi : i < 6) (A : Option Addr) (c : Nat) {l : List RV} (hl : ∀ t ∈ l, t ∈ sixL q i) : (q.setR i A c l).deepOk := by
  have H : ∀ (wh : Int) A c (m : List RV), (⟨wh, A, c, m⟩ : LX) ∈ LS q → ∀ t ∈ m, KO t ∧ t.tree.parts ≤ 1000000 := fun wh A c m hm => h _ hm
  have H0 := H 1 q.reqA q.reqC q.req (by simp [LS])
  have H1 := H 2 q.conA q.conC q.con (by simp [LS])
  have H2 := H 1 q.rcmA q.rcmC q.rcm (by simp [LS])
  have H3 := H 3 q.supA q.supC q.sup (by simp [LS])
  have H4 := H 1 q.sugA q.sugC q.sug (by simp [LS])
  have H5 := H 3 q.enhA q.enhC q.enh (by simp [LS])
  obtain rfl | rfl | rfl | rfl | rfl | rfl : i = 0 ∨ i = 1 ∨ i = 2 ∨ i = 3 ∨ i = 4 ∨ i = 5 := by omega
  all_goals
    intro x hx
    simp only [LS, Pk.setR, List.mem_cons, List.not_mem_nil, or_false] at hx
    rcases hx with rfl | rfl | rfl | rfl | rfl | rfl
    all_goals first | exact H0 | exact H1 | exact H2 | exact H3 | exact H4 | exact H5 | exact fun t ht => H0 t (hl t ht) | exact fun t ht => H1 t (hl t ht) | exact fun t ht => H2 t (hl t ht) | exact fun t ht => H3 t (hl t ht) | exact fun t ht => H4 t (hl t ht) | exact fun t ht => H5 t (hl t ht)
theorem deep_same {q r : Pk} (h : q.deepOk) (e : LS r = LS q) : r.deepOk := by unfold Pk.deepOk; rw [e]; exact h
theorem may_obs {q : Pk} (h : mayP q = true) (A : Option Addr) (c n : Nat) : mayP { q with obsA := A, obsC := c, obs := less q.obs n } = true := by
  have hm := (mayP_iff q).1 h
  exact (mayP_iff _).2 { hm with hob := dl_less hm.hob n }
/-- a row that does not lie in block cb -/
structure RdX {α : Type} (enc : α → List Value) (size cb : Nat) (A : Option Addr) (c : Nat) (l : List α) (W : World) : Prop where
  rd : Rd enc size W.heap.size A c l W
  ne : ∀ b o, A = some ⟨b, o, none⟩ → l ≠ [] → b ≠ cb
section
variable {α : Type} {enc : α → List Value} {size cb : Nat} {A : Option Addr} {c : Nat} {l : List α} {W W' : World}
theorem RdX.of (h : Rd enc size cb A c l W) (hcb : cb ≤ W.heap.size) : RdX enc size cb A c l W :=
  ⟨h.more hcb, fun b o e hl => by
    obtain ⟨b', o', e', hb, _⟩ := h.2.2 0 (List.length_pos_iff.2 hl)
    rw [e] at e'; cases e'; omega⟩
theorem RdX.below (h : RdX enc size cb A c l W) (hb : Below W.heap.size W W') : RdX enc size cb A c l W' := ⟨(h.rd.below hb).more hb.size, h.ne⟩
theorem RdX.set (h : RdX enc size cb A c l W) (off : Nat) (v : Value) : RdX enc size cb A c l (W.setCell ⟨cb, off, none⟩ v) := by
  refine ⟨⟨h.rd.1, h.rd.2.1, fun k hk => ?_⟩, h.ne⟩
  obtain ⟨b, o, e, hb, hc⟩ := h.rd.2.2 k hk
  refine ⟨b, o, e, by simpa [World.setCell] using hb, fun j u hu => (sc_other (fun he => ?_)).trans (hc j u hu)⟩
  simp only [Addr.mk.injEq] at he
  exact h.ne b o e (fun hl => by rw [hl] at hk; simp at hk) he.1.symm
theorem RdX.own {base : Nat} {e : TypeId} (h : Own enc size base e (.slice A l.length c) l W) (he : ∀ x, (enc x).length = size) (hb : cb < base) : RdX enc size cb A c l W :=
  ⟨own_rd' h he, fun b o e' _ => by subst e'; have := (World.ownsRow.lt h b rfl).1; omega⟩
end
/-- a package none of whose rows lies in block cb -/
structure LaidX (cb : Nat) (q : Pk) (W : World) : Prop where
  ar : (Lit.int .u8 q.arch).wf = true
  ep : (Lit.int .i64 q.epoch).wf = true
  n0 : q.name.size ≤ maxLen
  n1 : q.ver.size ≤ maxLen
  n2 : q.rel.size ≤ maxLen
  n3 : q.vendor.size ≤ maxLen
  prov : RdX encD 5 cb q.provA q.provC q.prov W
  provW : ∀ d ∈ q.prov, d.wf
  obs : RdX encD 5 cb q.obsA q.obsC q.obs W
  obsW : ∀ d ∈ q.obs, d.wf
  files : RdX encT1 1 cb q.filesA q.filesC q.files W
  filesW : ∀ s ∈ q.files, s.size ≤ maxLen
  req : RdX encR 7 cb q.reqA q.reqC q.req W ∧ ∀ t ∈ q.req, RTree cb W t
  con : RdX encR 7 cb q.conA q.conC q.con W ∧ ∀ t ∈ q.con, RTree cb W t
  rcm : RdX encR 7 cb q.rcmA q.rcmC q.rcm W ∧ ∀ t ∈ q.rcm, RTree cb W t
  sup : RdX encR 7 cb q.supA q.supC q.sup W ∧ ∀ t ∈ q.sup, RTree cb W t
  sug : RdX encR 7 cb q.sugA q.sugC q.sug W ∧ ∀ t ∈ q.sug, RTree cb W t
  enh : RdX encR 7 cb q.enhA q.enhC q.enh W ∧ ∀ t ∈ q.enh, RTree cb W t
theorem LaidX.of {cb : Nat} {q : Pk} {W : World} (h : q.Laid cb W) (hc : cb ≤ W.heap.size) : LaidX cb q W where
  ar := h.ar
  ep := h.ep
  n0 := h.n0
  n1 := h.n1
  n2 := h.n2
  n3 := h.n3
  prov := .of h.prov hc
  provW := h.provW
  obs := .of h.obs hc
  obsW := h.obsW
  files := .of (enc := encT1) h.files hc
  filesW := h.filesW
  req := ⟨.of h.req.1 hc, h.req.2⟩
  con := ⟨.of h.con.1 hc, h.con.2⟩
  rcm := ⟨.of h.rcm.1 hc, h.rcm.2⟩
  sup := ⟨.of h.sup.1 hc, h.sup.2⟩
  sug := ⟨.of h.sug.1 hc, h.sug.2⟩
  enh := ⟨.of h.enh.1 hc, h.enh.2⟩
theorem LaidX.laid {cb : Nat} {q : Pk} {W : World} (h : LaidX cb q W) (hc : cb ≤ W.heap.size) : q.Laid W.heap.size W where
  ar := h.ar
  ep := h.ep
  n0 := h.n0
  n1 := h.n1
  n2 := h.n2
  n3 := h.n3
  prov := h.prov.rd
  provW := h.provW
  obs := h.obs.rd
  obsW := h.obsW
  files := h.files.rd
  filesW := h.filesW
  req := ⟨h.req.1.rd, fun t ht => (h.req.2 t ht).more hc⟩
  con := ⟨h.con.1.rd, fun t ht => (h.con.2 t ht).more hc⟩
  rcm := ⟨h.rcm.1.rd, fun t ht => (h.rcm.2 t ht).more hc⟩
  sup := ⟨h.sup.1.rd, fun t ht => (h.sup.2 t ht).more hc⟩
  sug := ⟨h.sug.1.rd, fun t ht => (h.sug.2 t ht).more hc⟩
  enh := ⟨h.enh.1.rd, fun t ht => (h.enh.2 t ht).more hc⟩
theorem below_setCb (cb : Nat) (W : World) (off : Nat) (v : Value) : Below cb W (W.setCell ⟨cb, off, none⟩ v) := (Below.refl _ _).setCell (p := ⟨cb, off, none⟩) (Nat.le_refl _) _
theorem LaidX.below {cb : Nat} {q : Pk} {W W' : World} (h : LaidX cb q W) (hb : Below W.heap.size W W') (hc : cb ≤ W.heap.size) : LaidX cb q W' :=
  { h with prov := h.prov.below hb, obs := h.obs.below hb, files := h.files.below hb, req := ⟨h.req.1.below hb, fun t ht => (h.req.2 t ht).keeps (hb.mono hc)⟩, con := ⟨h.con.1.below hb, fun t ht => (h.con.2 t ht).keeps (hb.mono hc)⟩, rcm := ⟨h.rcm.1.below hb, fun t ht => (h.rcm.2 t ht).keeps (hb.mono hc)⟩, sup := ⟨h.sup.1.below hb, fun t ht => (h.sup.2 t ht).keeps (hb.mono hc)⟩, sug := ⟨h.sug.1.below hb, fun t ht => (h.sug.2 t ht).keeps (hb.mono hc)⟩, enh := ⟨h.enh.1.below hb, fun t ht => (h.enh.2 t ht).keeps (hb.mono hc)⟩ }
theorem LaidX.set {cb : Nat} {q : Pk} {W : World} (h : LaidX cb q W) (off : Nat) (v : Value) : LaidX cb q (W.setCell ⟨cb, off, none⟩ v) :=
  { h with prov := h.prov.set off v, obs := h.obs.set off v, files := h.files.set off v, req := ⟨h.req.1.set off v, fun t ht => (h.req.2 t ht).keeps (below_setCb _ _ _ _)⟩, con := ⟨h.con.1.set off v, fun t ht => (h.con.2 t ht).keeps (below_setCb _ _ _ _)⟩, rcm := ⟨h.rcm.1.set off v, fun t ht => (h.rcm.2 t ht).keeps (below_setCb _ _ _ _)⟩, sup := ⟨h.sup.1.set off v, fun t ht => (h.sup.2 t ht).keeps (below_setCb _ _ _ _)⟩, sug := ⟨h.sug.1.set off v, fun t ht => (h.sug.2 t ht).keeps (below_setCb _ _ _ _)⟩, enh := ⟨h.enh.1.set off v, fun t ht => (h.enh.2 t ht).keeps (below_setCb _ _ _ _)⟩ }
theorem LaidX.setR {cb : Nat} {q : Pk} {W : World} (h : LaidX cb q W) {A : Option Addr} {c : Nat} {l : List RV} (hr : RdX encR 7 cb A c l W) {i : Nat} (hi : i < 6) (hl : ∀ t ∈ l, t ∈ sixL q i) : LaidX cb (q.setR i A c l) W := by
  obtain rfl | rfl | rfl | rfl | rfl | rfl : i = 0 ∨ i = 1 ∨ i = 2 ∨ i = 3 ∨ i = 4 ∨ i = 5 := by omega
  · exact { h with req := ⟨hr, fun t ht => h.req.2 t (hl t ht)⟩ }
  · exact { h with con := ⟨hr, fun t ht => h.con.2 t (hl t ht)⟩ }
  · exact { h with rcm := ⟨hr, fun t ht => h.rcm.2 t (hl t ht)⟩ }
  · exact { h with sup := ⟨hr, fun t ht => h.sup.2 t (hl t ht)⟩ }
  · exact { h with sug := ⟨hr, fun t ht => h.sug.2 t (hl t ht)⟩ }
  · exact { h with enh := ⟨hr, fun t ht => h.enh.2 t (hl t ht)⟩ }
/-- what lies between the steps: the copy's box -/
structure LessAt (w : World) (cb : Nat) (q : Pk) (W : World) : Prop where
  box : Box15 cb q W
  laid : LaidX cb q W
  may : mayP q = true
  deep : q.deepOk
  old : Below w.heap.size w W
  base : w.heap.size ≤ cb
theorem LessAt.then {w : World} {cb : Nat} {q : Pk} {W W' : World} (h : LessAt w cb q W) (hb : Below W.heap.size W W') : LessAt w cb q W' := ⟨h.box.then hb, h.laid.below hb (Nat.le_of_lt h.box.2.2), h.may, h.deep, h.old.trans (hb.mono h.old.size), h.base⟩
theorem LessAt.cells {w : World} {cb : Nat} {q : Pk} {W : World} (h : LessAt w cb q W) : PkAt W cb q := h.box.1
theorem LessAt.pk {w : World} {cb : Nat} {q : Pk} {W : World} (h : LessAt w cb q W) : q.Laid W.heap.size W := h.laid.laid (Nat.le_of_lt h.box.2.2)
theorem LessAt.setR {w : World} {cb : Nat} {q : Pk} {W W2 : World} (h : LessAt w cb q W) {i : Nat} (hi : i < 6) (hb : Below W.heap.size W W2) {A : Option Addr} {c n : Nat} (ho : Own encR 7 W.heap.size 39 (.slice A (less (sixL q i) n).length c) (less (sixL q i) n) W2) :
    LessAt w cb (q.setR i A c (less (sixL q i) n)) (W2.setCell ⟨cb, offR i, none⟩ (.slice A (less (sixL q i) n).length c)) where
  box := (h.box.then hb).setR A c _ hi
  laid := ((h.laid.below hb (Nat.le_of_lt h.box.2.2)).setR (RdX.own ho encR_len h.box.2.2) hi fun t ht => less_mem ht).set _ _
  may := may_setR h.may hi A c n rfl
  deep := deep_setR h.deep hi A c fun t ht => less_mem ht
  old := (h.old.trans (hb.mono h.old.size)).setCell (p := ⟨cb, offR i, none⟩) h.base _
  base := h.base
theorem LessAt.setO {w : World} {cb : Nat} {q : Pk} {W W2 : World} (h : LessAt w cb q W) (hb : Below W.heap.size W W2) {A : Option Addr} {c n : Nat} (ho : Own encD 5 W.heap.size 37 (.slice A (less q.obs n).length c) (less q.obs n) W2) :
    LessAt w cb { q with obsA := A, obsC := c, obs := less q.obs n } (W2.setCell ⟨cb, 9, none⟩ (.slice A (less q.obs n).length c)) where
  box := (h.box.then hb).set_obs A c _
  laid := LaidX.set (q := { q with obsA := A, obsC := c, obs := less q.obs n }) { h.laid.below hb (Nat.le_of_lt h.box.2.2) with obs := RdX.own ho encD_len h.box.2.2, obsW := fun d hd => h.laid.obsW d (less_mem hd) } _ _
  may := may_obs h.may A c n
  deep := deep_same h.deep rfl
  old := (h.old.trans (hb.mono h.old.size)).setCell (p := ⟨cb, 9, none⟩) h.base _
  base := h.base
/-- pointers to the copy's lists -/
def PtrAt (gp cb : Nat) (offs : Nat → Nat) (n : Nat) (W : World) : Prop := gp < W.heap.size ∧ gp ≠ cb ∧ ∀ i, i < n → W.cell? ⟨gp, i, none⟩ = some (.pointer (some ⟨cb, offs i, none⟩))
theorem PtrAt.then {gp cb n : Nat} {offs : Nat → Nat} {W W' : World} (h : PtrAt gp cb offs n W) (hb : Below W.heap.size W W') : PtrAt gp cb offs n W' := ⟨Nat.lt_of_lt_of_le h.1 hb.size, h.2.1, fun i hi => (hb.cell (p := ⟨gp, i, none⟩) h.1).trans (h.2.2 i hi)⟩
theorem PtrAt.set {gp cb n : Nat} {offs : Nat → Nat} {W : World} (h : PtrAt gp cb offs n W) (off : Nat) (v : Value) : PtrAt gp cb offs n (W.setCell ⟨cb, off, none⟩ v) := ⟨by simpa [World.setCell] using h.1, h.2.1, fun i hi => (sc_other (fun e => by simp only [Addr.mk.injEq] at e; exact h.2.1 e.1.symm)).trans (h.2.2 i hi)⟩
end Go.Proofs.YtibeipmcggbbgaaGreatDoor
