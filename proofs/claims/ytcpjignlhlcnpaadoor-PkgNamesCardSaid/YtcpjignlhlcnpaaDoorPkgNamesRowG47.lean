/- PkLaid -/
import Derived.Test.YtcpjignlhlcnpaaDoorPkgNamesRowG13
import Derived.Test.YtcpjignlhlcnpaaDoorPkgNamesRowG09
import Derived.Test.YtcpjignlhlcnpaaDoorPkgNamesRowG08
import Derived.Lay
import Derived.LaidMore
import Derived.LaidLaws
import Derived.Lib.LaidIn
import Derived.Lib.LaidU8
import Derived.Lib.LaidTab
set_option linter.unusedSimpArgs false
set_option linter.unusedVariables false
/- The listed variables of pkg's statements: what the condition gives the walks; a world that meets it. -/



namespace Go.Proofs.YtcpjignlhlcnpaaDoor
open Go.ChangeShapes Go.WideShapes Go.ChangeAt Go.RowKit Go.WideMaps Go.WideElems

def laidD : List (String × DataW Unit) := [("unicode/utf8.acceptRanges", Rows.laid_unicode_utf8_acceptRanges), ("chandlery/span.ops", Rows.laid_chandlery_span_ops), ("chandlery/dep.words", Rows.laid_chandlery_dep_words), ("unicode/utf8.first", Rows.laid_unicode_utf8_first)]
def greatD : List String := ["unicode/utf8.acceptRanges", "chandlery/dep.words", "unicode/utf8.first"]
noncomputable def laidStart (os : Os) : World := (World.doorLaid Tryd.prog 240 os).layVars Tryd.prog (laidD.filter fun x => greatD.contains x.1)
theorem laidStart_os (os : Os) : (laidStart os).os = os := World.layVars_os _ _ _
set_option maxRecDepth 100000 in
theorem laidStart_met (os : Os) (args : Array Value) : laidMetH Tryd.prog laidD ((laidStart os).forCall (fun _ _ => 0) ⟨#[], args, []⟩).memory := by
  rw [MakeChecks.laidMetH_plain _ _ _ (by kernel_rfl)]
  exact laidMet_layVars greatD [1, 10] rfl (by kernel_rfl) (by kernel_rfl) (LaidIn.of_run [1, 10] 8 (by kernel_rfl) (by kernel_rfl) (by kernel_rfl) (by kernel_rfl))
theorem gOps : Tryd.prog.globalNamed "chandlery/span.ops" = some 1 := by kernel_rfl
theorem tOps : (Tryd.prog.globals[1]?).map (·.type) = some 85 := by kernel_rfl
theorem gWds : Tryd.prog.globalNamed "chandlery/dep.words" = some 0 := by kernel_rfl
theorem tWds : (Tryd.prog.globals[0]?).map (·.type) = some 58 := by kernel_rfl
set_option maxRecDepth 100000 in
theorem opsIn_of {W : World} (h : laidMet Tryd.prog laidD W) : OpsIn W := by
  obtain ⟨g, t, cs, f, p, hg, ht, hv, hd⟩ := Lib.laidMet.reads h (n := "chandlery/span.ops") (d := Rows.laid_chandlery_span_ops) (by simp only [laidD, List.mem_cons]; right; left; trivial)
  obtain rfl := Option.some.inj (gOps.symm.trans hg)
  obtain rfl := Option.some.inj (tOps.symm.trans ht)
  rcases open_map Tryd.underlying85 hd with ⟨_, hx⟩ | ⟨bm, es, clock, m, rfl, hcs, hb, _, F, hx⟩
  · simp [Rows.laid_chandlery_span_ops] at hx
  simp only [Prod.mk.injEq] at hx
  have hcell : W.cell? ⟨1, 0, none⟩ = some (.map (some bm)) := by
    have := World.var?_cell hg hv 0
    rw [Array.eq_one_of_toList hcs] at this
    simpa using this
  have h0 := World.block_lt_of_cell? W _ hcell
  have hbl : bm < W.heap.size := (Array.getElem?_eq_some_iff.1 hb).1
  have hown := World.ownsMap_of_fit (R := plainElem Tryd.prog 5) hb F (fun x _ z hz => elemAt_plainElem_int Tryd.underlying5 hz)
  rw [← hx.1] at hown
  exact ⟨Nat.lt_of_le_of_lt (Nat.zero_le _) h0, bm, _, hcell, h0, hbl, hown⟩
theorem cells_of_strs {P : Program} {w : World} {base : Nat} {sp : Nat → Bool} {held : Bool} {fuel : Nat} {t e : TypeId} {n : Nat} {cs : List Value} {zs : List Bytes} {p : List MemPlace} {H : Type} {enc : TypeId × Value → H}
    (ht : P.underlying t = some (.array n e)) (he : P.underlying e = some .string) (hce : P.cellsOf e = 1) (hct : P.cellsOf t = n)
    (h : DataW.trod enc P w base sp held fuel t cs = some (.agg (zs.map fun z => .lit (.string z)), p)) : cs = zs.map fun z => Value.string (bs z) := by
  cases fuel with
  | zero => simp [DataW.trod] at h
  | succ fuel =>
    simp only [DataW.trod, ht, hce, hct, Nat.mul_one] at h
    split at h
    · rename_i hl
      obtain ⟨xs, hm, hx⟩ := Option.map_eq_some_iff.1 h
      have hxs : xs.map (·.1) = zs.map fun z => (DataW.lit (.string z) : DataW H) := by
        have := congrArg Prod.fst hx
        simpa using this
      have hxl : xs.length = n := by simpa using Lib.mapM_length hm
      have hzl : zs.length = n := by
        have := congrArg List.length hxs
        simp at this
        omega
      apply List.ext_getElem?
      intro i
      by_cases hi : i < n
      · obtain ⟨b, hb, hf⟩ := Lib.mapM_at hm i i (by simp [hi])
        obtain ⟨s, hc, hd, _⟩ := DataW.trod_string he hf
        have h1 : cs[i]? = some (.string s) := by
          have := congrArg (·[0]?) hc
          simpa [List.getElem?_take, List.getElem?_drop] using this
        have h2 : (xs.map (·.1))[i]? = some b.1 := by simp [hb]
        rw [hxs, hd] at h2
        simp only [List.getElem?_map, Option.map_eq_some_iff, DataW.lit.injEq, Lit.string.injEq] at h2
        obtain ⟨z', hz', e2⟩ := h2
        rw [h1, List.getElem?_map, hz', Option.map_some, e2]
        rfl
      · rw [List.getElem?_eq_none (by omega), List.getElem?_eq_none (by simp; omega)]
    · cases h
set_option maxRecDepth 100000 in
theorem wordsIn_of {W : World} (h : laidMet Tryd.prog laidD W) : WordsIn W := by
  obtain ⟨g, t, cs, f, p, hg, ht, hv, hd⟩ := Lib.laidMet.reads h (n := "chandlery/dep.words") (d := Rows.laid_chandlery_dep_words) (by simp only [laidD, List.mem_cons]; right; right; left; trivial)
  obtain rfl := Option.some.inj (gWds.symm.trans hg)
  obtain rfl := Option.some.inj (tWds.symm.trans ht)
  have hcs : cs.toList = noNames.map fun z => Value.string (bs z) := cells_of_strs Tryd.underlying58 Tryd.underlying9 (by kernel_rfl) (by kernel_rfl) hd
  have hc : ∀ k, W.cell? ⟨0, k, none⟩ = (noNames.map fun z => Value.string (bs z))[k]? := fun k => by
    have := World.var?_cell hg hv k
    rw [← Array.getElem?_toList, hcs] at this
    simpa using this
  have h0 := World.block_lt_of_cell? W _ ((hc 0).trans rfl)
  exact ⟨h0, (hc 0).trans rfl, (hc 1).trans rfl, (hc 2).trans rfl, (hc 3).trans rfl, (hc 4).trans rfl, (hc 5).trans rfl, (hc 6).trans rfl⟩
set_option maxRecDepth 100000 in
theorem pkIn_of {W : World} (h : laidMetH Tryd.prog laidD W) : PkIn W := by
  rw [MakeChecks.laidMetH_plain _ _ _ (by kernel_rfl)] at h
  exact ⟨opsIn_of h, wordsIn_of h⟩
end Go.Proofs.YtcpjignlhlcnpaaDoor
