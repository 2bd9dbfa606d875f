/- PkNmM3 -/
import Derived.Test.YtcpjignlhlcnpaaDoorPkgNamesRowG43
set_option linter.unusedSimpArgs false
set_option linter.unusedVariables false
/- PkgNames: a package whose Requires are a row that is being filled. -/

namespace Go.Proofs.YtcpjignlhlcnpaaDoor
open Go.RowKit Go.Shelf
set_option linter.unusedVariables false

def aR : RV := atomR [97]
def req33 (q : Pk) (g : Nat) : Pk := { q with reqA := some ⟨g, 0, none⟩, reqC := 33, req := List.replicate 33 aR }
def Pk.nr (q : Pk) : Pk := { q with reqA := none, reqC := 0, req := [] }
def xR (b g : Nat) (x : Nat) : Prop := x = b ∨ x = g
/-- a package's box, and its rows but Requires, whose row is being filled -/
structure NmR (b g : Nat) (q : Pk) (wr W : World) : Prop where
  old : Below wr.heap.size wr W
  ge : wr.heap.size ≤ b
  geg : wr.heap.size ≤ g
  ne : b ≠ g
  box : Box15 b (req33 q g) W
  laid : LaidS (xR b g) q.nr W
section
variable {b g : Nat} {q : Pk} {wr W W' : World}
theorem NmR.then (h : NmR b g q wr W) (hb : Below W.heap.size W W') : NmR b g q wr W' := ⟨h.old.trans (hb.mono h.old.size), h.ge, h.geg, h.ne, h.box.then hb, h.laid.keep (.of hb)⟩
theorem NmR.turn (h : NmR b g q wr W) (l : List Value) (k : Nat) : NmR b g q wr (setL g k l W) := ⟨h.old.trans (setL_below h.geg l k W), h.ge, h.geg, h.ne, h.box.butR (setL_butR g l k W) h.ne, h.laid.keep ⟨Nat.le_of_eq (setL_heap _ _ _ _).symm, fun c hc hx => (setL_butR g l k W).block c hc (fun e => hx (.inr e))⟩⟩
theorem NmR.c7 (h : NmR b g q wr W) : W.cell? ⟨b, 7, none⟩ = some (.slice (some ⟨g, 0, none⟩) 33 33) := by
  obtain ⟨⟨_, _, _, _, _, _, _, _, c7, _⟩, _⟩ := h.box
  exact c7
theorem NmR.full {base : Nat} {l : List RV} (h : NmR b g q wr W) (ho : Own encR 7 base 28 (.slice (some ⟨g, 0, none⟩) 33 33) l W) (hl : l = List.replicate 33 aR) : (req33 q g).Laid W.heap.size W :=
  have L := h.laid.laid
  { ar := L.ar, ep := L.ep, n0 := L.n0, n1 := L.n1, n2 := L.n2, n3 := L.n3, prov := L.prov, provW := L.provW, obs := L.obs, obsW := L.obsW, files := L.files, filesW := L.filesW, con := L.con, rcm := L.rcm, sup := L.sup, sug := L.sug, enh := L.enh, req := ⟨by subst hl; exact own_rdA ho encR_len, fun t ht => by rw [(List.mem_replicate.1 (show t ∈ List.replicate 33 aR from ht)).2]; exact atomR_rtree _ _ _ (by decide)⟩ }
end
theorem nr_start {q : Pk} {w V W : World} (hl : q.Laid w.heap.size w) (hn : NmP (· = w.heap.size) w.heap.size q w V) (hV : W = (V.alloc (.cells rich33 28)).setCell ⟨w.heap.size, 7, none⟩ (.slice (some ⟨V.heap.size, 0, none⟩) 33 33)) :
    NmR w.heap.size V.heap.size q w W ∧ Own encR 7 V.heap.size 28 (.slice (some ⟨V.heap.size, 0, none⟩) 33 33) (List.replicate 33 zeroRV) W := by
  have hlt : w.heap.size < V.heap.size := hn.box.2.2
  have ha := (Below.refl V.heap.size V).alloc (Nat.le_refl _) (.cells rich33 28)
  have hB := hn.old.trans (ha.mono hn.old.size)
  have hO := own_litN (base := V.heap.size) (W := V) (l := List.replicate 33 zeroRV) (cs := rich33) (e := 28) (n := 33) encR_len (by simp) rich33_list (by decide) (Nat.le_refl _)
  have hb := hn.box.then ha
  have hL := LaidS.of (X := xR w.heap.size V.heap.size) (hl.below hB) hB.size (fun b hb hx => by rcases hx with rfl | rfl <;> omega)
  subst hV
  generalize V.alloc (.cells rich33 28) = Z at *
  have hk := hL.keep (Kept.set (X := xR w.heap.size V.heap.size) (cb := w.heap.size) (.inl rfl) 7 (.slice (some ⟨V.heap.size, 0, none⟩) 33 33))
  refine ⟨⟨hB.setCell (p := ⟨w.heap.size, 7, none⟩) (Nat.le_refl _) _, Nat.le_refl _, Nat.le_of_lt hlt, Nat.ne_of_lt hlt, hb.set_req (some ⟨V.heap.size, 0, none⟩) 33 (List.replicate 33 aR), ?_⟩, hO.butR ((ButR.refl w.heap.size _).set 7 _) hlt⟩
  exact { ar := hk.ar, ep := hk.ep, n0 := hk.n0, n1 := hk.n1, n2 := hk.n2, n3 := hk.n3, prov := hk.prov, provW := hk.provW, obs := hk.obs, obsW := hk.obsW, files := hk.files, filesW := hk.filesW, con := hk.con, rcm := hk.rcm, sup := hk.sup, sug := hk.sug, enh := hk.enh, req := .none_ }
theorem rep_setR (i : Nat) (h : i < 33) : (List.replicate i aR ++ List.replicate (33 - i) zeroRV).set i aR = List.replicate (i + 1) aR ++ List.replicate (33 - (i + 1)) zeroRV := by
  have e : List.replicate (33 - i) zeroRV = zeroRV :: List.replicate (33 - (i + 1)) zeroRV := by rw [show 33 - i = (33 - (i + 1)) + 1 by omega]; rfl
  rw [List.set_append_right _ _ (by simp), e]
  simp [List.replicate_succ', List.append_assoc]
end Go.Proofs.YtcpjignlhlcnpaaDoor
