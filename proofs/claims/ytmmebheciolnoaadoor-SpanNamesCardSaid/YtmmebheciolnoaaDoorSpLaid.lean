/- The listed variables of span's statements: what the condition gives the walks; a world that meets it. -/
import Derived.Test.YtmmebheciolnoaaDoorSpOps
import Derived.Test.YtmmebheciolnoaaDoorRowLaid
import Derived.Lay
import Derived.LaidMore
import Derived.Lib.LaidIn
namespace Go.Proofs.YtmmebheciolnoaaDoor
open Go.ChangeShapes Go.WideShapes Go.ChangeAt Go.RowKit Go.WideMaps Go.WideElems

def laid3 : List (String × DataW Unit) := [("unicode/utf8.acceptRanges", Rows.laid_unicode_utf8_acceptRanges), ("chandlery/span.ops", Rows.laid_chandlery_span_ops), ("unicode/utf8.first", Rows.laid_unicode_utf8_first)]
def great2 : List String := ["unicode/utf8.acceptRanges", "unicode/utf8.first"]
noncomputable def laidStart (os : Os) : World := (World.doorLaid Tryd.prog 240 os).layVars Tryd.prog (laid3.filter fun x => great2.contains x.1)
theorem laidStart_os (os : Os) : (laidStart os).os = os := World.layVars_os _ _ _
set_option maxRecDepth 100000 in
theorem laidStart_met (os : Os) (args : Array Value) : laidMetH Tryd.prog laid3 ((laidStart os).forCall (fun _ _ => 0) ⟨#[], args, []⟩).memory := by
  rw [MakeChecks.laidMetH_plain _ _ _ (by kernel_rfl)]
  exact laidMet_layVars great2 [0, 18] rfl (by kernel_rfl) (by kernel_rfl) (LaidIn.of_run [0, 18] 8 (by kernel_rfl) (by kernel_rfl) (by kernel_rfl) (by kernel_rfl))
theorem gOps : Tryd.prog.globalNamed "chandlery/span.ops" = some 0 := by kernel_rfl
theorem tOps : (Tryd.prog.globals[0]?).map (·.type) = some 87 := by kernel_rfl
set_option maxRecDepth 100000 in
theorem opsIn_of {W : World} (h : laidMetH Tryd.prog laid3 W) : OpsIn W := by
  rw [MakeChecks.laidMetH_plain _ _ _ (by kernel_rfl)] at h
  obtain ⟨ps, ⟨_, _, _, _, _, _, _, _, _, _, ⟨g, t, cs, f, p, q, hg, ht, hv, hd, _⟩, _⟩, _, _⟩ := h
  obtain rfl := Option.some.inj (gOps.symm.trans hg)
  obtain rfl := Option.some.inj (tOps.symm.trans ht)
  rcases open_map Tryd.underlying87 hd with ⟨_, hx⟩ | ⟨bm, es, clock, m, rfl, hcs, hb, _, F, hx⟩
  · simp [Rows.laid_chandlery_span_ops] at hx
  simp only [Prod.mk.injEq] at hx
  have hcell : W.cell? ⟨0, 0, none⟩ = some (.map (some bm)) := by
    have := World.var?_cell hg hv 0
    rw [Array.eq_one_of_toList hcs] at this
    simpa using this
  have h0 := World.block_lt_of_cell? W _ hcell
  have hbl : bm < W.heap.size := (Array.getElem?_eq_some_iff.1 hb).1
  have hown := World.ownsMap_of_fit (R := plainElem Tryd.prog 5) hb F (fun x _ z hz => elemAt_plainElem_int Tryd.underlying5 hz)
  rw [← hx.1] at hown
  exact ⟨Nat.lt_of_le_of_lt (Nat.zero_le _) h0, bm, _, hcell, h0, hbl, hown⟩
end Go.Proofs.YtmmebheciolnoaaDoor
