/- RichLaid -/
import Derived.Test.YtnfagaccbkeikaaGreatDoorRichReadsRowG10
import Derived.Test.YtnfagaccbkeikaaGreatDoorRichReadsRowG15
import Derived.Test.YtnfagaccbkeikaaGreatDoorRichReadsRowG46
import Derived.Lib.LaidTab
/- The listed variables of rich's statements: what the condition gives the walks; a world that meets it. -/




namespace Go.Proofs.YtnfagaccbkeikaaGreatDoor
open Go.ChangeShapes Go.WideShapes Go.ChangeAt Go.RowKit Go.WideMaps Go.WideElems

def laidD : List (String × DataW Unit) := [("math/bits.deBruijn32tab", Rows.laid_math_bits_deBruijn32tab), ("math/bits.deBruijn64tab", Rows.laid_math_bits_deBruijn64tab), ("internal/strconv.uint64pow10", Rows.laid_internal_strconv_uint64pow10), ("strconv.ErrRange", Rows.laid_strconv_ErrRange), ("strconv.ErrSyntax", Rows.laid_strconv_ErrSyntax), ("chandlery/span.ops", Rows.laid_chandlery_span_ops), ("chandlery/dep.words", Rows.laid_chandlery_dep_words), ("chandlery/rich.kinds", Rows.laid_chandlery_rich_kinds)]
def greatD : List String := ["math/bits.deBruijn32tab", "math/bits.deBruijn64tab", "internal/strconv.uint64pow10", "strconv.ErrRange", "strconv.ErrSyntax", "chandlery/dep.words", "chandlery/rich.kinds"]
noncomputable def laidStart (os : Os) : World := (World.doorLaid Tryz.prog 240 os).layVars Tryz.prog (laidD.filter fun x => greatD.contains x.1)
theorem laidStart_os (os : Os) : (laidStart os).os = os := World.layVars_os _ _ _
set_option maxRecDepth 100000 in
theorem laidStart_met (os : Os) (args : Array Value) : laidMetH Tryz.prog laidD ((laidStart os).forCall (fun _ _ => 0) ⟨#[], args, []⟩).memory := by
  rw [MakeChecks.laidMetH_plain _ _ _ (by kernel_rfl)]
  exact laidMet_layVars greatD [2, 18] rfl (by kernel_rfl) (by kernel_rfl) (LaidIn.of_run [2, 18] 8 (by kernel_rfl) (by kernel_rfl) (by kernel_rfl) (by kernel_rfl))
theorem gOps : Tryz.prog.globalNamed "chandlery/span.ops" = some 2 := by kernel_rfl
theorem tOps : (Tryz.prog.globals[2]?).map (·.type) = some 222 := by kernel_rfl
theorem gWds : Tryz.prog.globalNamed "chandlery/dep.words" = some 1 := by kernel_rfl
theorem tWds : (Tryz.prog.globals[1]?).map (·.type) = some 199 := by kernel_rfl
set_option maxRecDepth 100000 in
theorem opsIn_of {W : World} (h : laidMet Tryz.prog laidD W) : OpsIn W := by
  obtain ⟨g, t, cs, f, p, hg, ht, hv, hd⟩ := Lib.laidMet.reads h (n := "chandlery/span.ops") (d := Rows.laid_chandlery_span_ops) (by simp only [laidD, List.mem_cons]; right; right; right; right; right; left; trivial)
  obtain rfl := Option.some.inj (gOps.symm.trans hg)
  obtain rfl := Option.some.inj (tOps.symm.trans ht)
  rcases open_map Tryz.underlying222 hd with ⟨_, hx⟩ | ⟨bm, es, clock, m, rfl, hcs, hb, _, F, hx⟩
  · simp [Rows.laid_chandlery_span_ops] at hx
  simp only [Prod.mk.injEq] at hx
  have hcell : W.cell? ⟨2, 0, none⟩ = some (.map (some bm)) := by
    have := World.var?_cell hg hv 0
    rw [Array.eq_one_of_toList hcs] at this
    simpa using this
  have h0 := World.block_lt_of_cell? W _ hcell
  have hbl : bm < W.heap.size := (Array.getElem?_eq_some_iff.1 hb).1
  have hown := World.ownsMap_of_fit (R := plainElem Tryz.prog 5) hb F (fun x _ z hz => elemAt_plainElem_int Tryz.underlying5 hz)
  rw [← hx.1] at hown
  exact ⟨Nat.lt_of_le_of_lt (Nat.zero_le _) h0, bm, _, hcell, h0, hbl, hown⟩
theorem cells_of_strs {P : Program} {w : World} {base : Nat} {sp : Nat → Bool} {held : Bool} {fuel : Nat} {t e : TypeId} {n : Nat} {cs : List Value} {zs : List Bytes} {p : List MemPlace} {H : Type} {enc : TypeId × Value → H}
    (ht : P.underlying t = some (.array n e)) (he : P.underlying e = some .string) (hce : P.cellsOf e = 1) (hct : P.cellsOf t = n)
    (h : DataW.trod enc P w base sp held fuel t cs = some (.agg (zs.map fun z => .lit (.string z)), p)) : cs = zs.map fun z => Value.string (bs z) := by
  cases fuel with
  | zero => simp [DataW.trod] at h
  | succ fuel =>
    simp only [DataW.trod, ht, hce, hct, Nat.mul_one] at h
    split at h
    · rename_i hl
      obtain ⟨xs, hm, hx⟩ := Option.map_eq_some_iff.1 h
      have hxs : xs.map (·.1) = zs.map fun z => (DataW.lit (.string z) : DataW H) := by
        have := congrArg Prod.fst hx
        simpa using this
      have hxl : xs.length = n := by simpa using Lib.mapM_length hm
      have hzl : zs.length = n := by
        have := congrArg List.length hxs
        simp at this
        omega
      apply List.ext_getElem?
      intro i
      by_cases hi : i < n
      · obtain ⟨b, hb, hf⟩ := Lib.mapM_at hm i i (by simp [hi])
        obtain ⟨s, hc, hd, _⟩ := DataW.trod_string he hf
        have h1 : cs[i]? = some (.string s) := by
          have := congrArg (·[0]?) hc
          simpa [List.getElem?_take, List.getElem?_drop] using this
        have h2 : (xs.map (·.1))[i]? = some b.1 := by simp [hb]
        rw [hxs, hd] at h2
        simp only [List.getElem?_map, Option.map_eq_some_iff, DataW.lit.injEq, Lit.string.injEq] at h2
        obtain ⟨z', hz', e2⟩ := h2
        rw [h1, List.getElem?_map, hz', Option.map_some, e2]
        rfl
      · rw [List.getElem?_eq_none (by omega), List.getElem?_eq_none (by simp; omega)]
    · cases h
set_option maxRecDepth 100000 in
theorem wordsIn_of {W : World} (h : laidMet Tryz.prog laidD W) : WordsIn W := by
  obtain ⟨g, t, cs, f, p, hg, ht, hv, hd⟩ := Lib.laidMet.reads h (n := "chandlery/dep.words") (d := Rows.laid_chandlery_dep_words) (by simp only [laidD, List.mem_cons]; right; right; right; right; right; right; left; trivial)
  obtain rfl := Option.some.inj (gWds.symm.trans hg)
  obtain rfl := Option.some.inj (tWds.symm.trans ht)
  have hcs : cs.toList = noNames.map fun z => Value.string (bs z) := cells_of_strs Tryz.underlying199 Tryz.underlying9 (by kernel_rfl) (by kernel_rfl) hd
  have hc : ∀ k, W.cell? ⟨1, k, none⟩ = (noNames.map fun z => Value.string (bs z))[k]? := fun k => by
    have := World.var?_cell hg hv k
    rw [← Array.getElem?_toList, hcs] at this
    simpa using this
  have h0 := World.block_lt_of_cell? W _ ((hc 0).trans rfl)
  exact ⟨h0, (hc 0).trans rfl, (hc 1).trans rfl, (hc 2).trans rfl, (hc 3).trans rfl, (hc 4).trans rfl, (hc 5).trans rfl, (hc 6).trans rfl⟩
theorem cells_of_pairs {P : Program} {w : World} {base : Nat} {sp : Nat → Bool} {held : Bool} {fuel : Nat} {t e ts ti : TypeId} {f0 f1 : Field} {n : Nat} {cs : List Value} {zs : List (Bytes × Int)} {p : List MemPlace} {H : Type} {enc : TypeId × Value → H}
    (ht : P.underlying t = some (.array n e)) (he : P.underlying e = some (.struct #[f0, f1])) (hF : (f0.type, f0.offset, f1.type, f1.offset) = (ts, 0, ti, 1)) (hs : P.underlying ts = some .string) (hi : P.underlying ti = some (.int .i64)) (hC : (P.cellsOf ts == 1 && P.cellsOf ti == 1 && P.cellsOf e == 2 && P.cellsOf t == n * 2) = true)
    (h : DataW.trod enc P w base sp held fuel t cs = some (.agg (zs.map fun z => .agg [.lit (.string z.1), .lit (.int .i64 z.2)]), p)) : ∀ (k : Nat) (hk : k < zs.length), cs[k * 2]? = some (.string (bs (zs[k]'hk).1)) ∧ cs[k * 2 + 1]? = some (.int .i64 (zs[k]'hk).2) := by
  simp only [Bool.and_eq_true, beq_iff_eq] at hC
  obtain ⟨⟨⟨c1, c2⟩, c3⟩, c4⟩ := hC
  simp only [Prod.mk.injEq] at hF
  obtain ⟨e1, e2, e3, e4⟩ := hF
  obtain ⟨xs, m, rfl, hx, hl, hn, hf⟩ := DataW.trod_array ht h
  simp only [Prod.mk.injEq, DataW.agg.injEq] at hx
  have hzl : zs.length = n := by
    have := congrArg List.length hx.1
    simp at this
    omega
  intro k hk
  have h1 := hf k (by omega)
  rw [c3, List.getElem?_eq_getElem (by omega)] at h1
  obtain ⟨ys, m2, _, hy, hl2, hlen, hg⟩ := DataW.trod_struct he h1
  have g0 := hg 0 f0 rfl
  have g1 := hg 1 f1 rfl
  rw [e1, e2, c1, List.drop_zero] at g0
  rw [e3, e4, c2] at g1
  have hlen' : ys.length = 2 := by simpa using hlen
  match ys, hlen' with
  | [y0, y1], _ =>
    obtain ⟨s0, q0, r0, _⟩ := DataW.trod_string hs (by simpa using g0)
    obtain ⟨n0, q1, r1, _⟩ := DataW.trod_int hi (by simpa using g1)
    have hz : (xs[k]'(by omega)).1 = .agg [.lit (.string (zs[k]'hk).1), .lit (.int .i64 (zs[k]'hk).2)] := by
      have := congrArg (·[k]?) hx.1
      simp only [List.getElem?_map, List.getElem?_eq_getElem hk, List.getElem?_eq_getElem (show k < xs.length by omega), Option.map_some, Option.some.injEq] at this
      exact this.symm
    rw [hy, r0, r1] at hz
    simp only [List.map_cons, List.map_nil, DataW.agg.injEq, List.cons.injEq, DataW.lit.injEq, Lit.string.injEq, Lit.int.injEq, and_true, true_and] at hz
    obtain ⟨z0, z1⟩ := hz
    have u0 : cs[k * 2]? = some (.string s0) := by
      have := congrArg (·[0]?) q0
      simpa [List.getElem?_take, List.getElem?_drop] using this
    have u1 : cs[k * 2 + 1]? = some (.int .i64 n0) := by
      have := congrArg (·[0]?) q1
      simpa [List.getElem?_take, List.getElem?_drop, Nat.add_comm, Nat.add_left_comm] using this
    refine ⟨?_, by rw [u1, z1]⟩
    rw [u0, ← z0]
    rfl
theorem gKds : Tryz.prog.globalNamed "chandlery/rich.kinds" = some 0 := by kernel_rfl
theorem tKds : (Tryz.prog.globals[0]?).map (·.type) = some 194 := by kernel_rfl
set_option maxRecDepth 100000 in
theorem kindsIn_of {W : World} (h : laidMet Tryz.prog laidD W) : KindsIn W := by
  obtain ⟨g, t, cs, f, p, hg, ht, hv, hd⟩ := Lib.laidMet.reads h (n := "chandlery/rich.kinds") (d := Rows.laid_chandlery_rich_kinds) (by simp only [laidD, List.mem_cons]; right; right; right; right; right; right; right; left; trivial)
  obtain rfl := Option.some.inj (gKds.symm.trans hg)
  obtain rfl := Option.some.inj (tKds.symm.trans ht)
  have hp := cells_of_pairs (zs := kindL.map fun z => (z.1, (z.2 : Int))) Tryz.underlying194 Tryz.underlying193 rfl Tryz.underlying9 Tryz.underlying3 (by kernel_rfl) hd
  have hc : ∀ k, W.cell? ⟨0, k, none⟩ = cs.toList[k]? := fun k => by
    have := World.var?_cell hg hv k
    rw [← Array.getElem?_toList] at this
    simpa using this
  have h0 := hp 0 (by decide)
  have hb := World.block_lt_of_cell? W _ ((hc 0).trans h0.1)
  refine ⟨hb, fun k hk => ?_⟩
  have h1 := hp k (by simpa [kindL] using hk)
  rw [hc, hc]
  simp only [List.getElem_map] at h1
  exact h1
set_option maxRecDepth 100000 in
theorem richIn_of {W : World} (h : laidMetH Tryz.prog laidD W) (hs : W.ShapedOpen Tryz.prog) : RichIn W := by
  rw [MakeChecks.laidMetH_plain _ _ _ (by kernel_rfl)] at h
  exact ⟨⟨evIn_gen h (by simp only [laidD, List.mem_cons]; right; right; left; rfl) (by simp only [laidD, List.mem_cons]; right; right; right; right; left; rfl) (by simp only [laidD, List.mem_cons]; right; right; right; left; rfl) hs, opsIn_of h, wordsIn_of h⟩, kindsIn_of h⟩
end Go.Proofs.YtnfagaccbkeikaaGreatDoor
