/- PkLaid, RichArgs -/
import Derived.Test.YteobmfpbgnmffaaGreatDoorPkgCopiesRowG11
import Derived.Test.YteobmfpbgnmffaaGreatDoorPkgCopiesRowG09
import Derived.Test.YteobmfpbgnmffaaGreatDoorPkgCopiesRowG08
import Derived.Lay
import Derived.LaidMore
import Derived.LaidLaws
import Derived.Lib.LaidIn
import Derived.Lib.LaidU8
import Derived.Lib.LaidTab
set_option linter.unusedSimpArgs false
set_option linter.unusedVariables false
namespace Go.Proofs.YteobmfpbgnmffaaGreatDoor
section
/- The listed variables of pkg's statements: what the condition gives the walks; a world that meets it. -/




open Go.ChangeShapes Go.WideShapes Go.ChangeAt Go.RowKit Go.WideMaps Go.WideElems

def laidD : List (String × DataW Unit) := [("unicode/utf8.acceptRanges", Rows.laid_unicode_utf8_acceptRanges), ("chandlery/span.ops", Rows.laid_chandlery_span_ops), ("chandlery/dep.words", Rows.laid_chandlery_dep_words), ("unicode/utf8.first", Rows.laid_unicode_utf8_first)]
def greatD : List String := ["unicode/utf8.acceptRanges", "chandlery/dep.words", "unicode/utf8.first"]
noncomputable def laidStart (os : Os) : World := (World.doorLaid Tryz.prog 240 os).layVars Tryz.prog (laidD.filter fun x => greatD.contains x.1)
theorem laidStart_os (os : Os) : (laidStart os).os = os := World.layVars_os _ _ _
set_option maxRecDepth 100000 in
theorem laidStart_met (os : Os) (args : Array Value) : laidMetH Tryz.prog laidD ((laidStart os).forCall (fun _ _ => 0) ⟨#[], args, []⟩).memory := by
  rw [MakeChecks.laidMetH_plain _ _ _ (by kernel_rfl)]
  exact laidMet_layVars greatD [2, 11] rfl (by kernel_rfl) (by kernel_rfl) (LaidIn.of_run [2, 11] 8 (by kernel_rfl) (by kernel_rfl) (by kernel_rfl) (by kernel_rfl))
theorem gOps : Tryz.prog.globalNamed "chandlery/span.ops" = some 2 := by kernel_rfl
theorem tOps : (Tryz.prog.globals[2]?).map (·.type) = some 227 := by kernel_rfl
theorem gWds : Tryz.prog.globalNamed "chandlery/dep.words" = some 1 := by kernel_rfl
theorem tWds : (Tryz.prog.globals[1]?).map (·.type) = some 196 := by kernel_rfl
set_option maxRecDepth 100000 in
theorem opsIn_of {W : World} (h : laidMet Tryz.prog laidD W) : OpsIn W := by
  obtain ⟨g, t, cs, f, p, hg, ht, hv, hd⟩ := Lib.laidMet.reads h (n := "chandlery/span.ops") (d := Rows.laid_chandlery_span_ops) (by simp only [laidD, List.mem_cons]; right; left; trivial)
  obtain rfl := Option.some.inj (gOps.symm.trans hg)
  obtain rfl := Option.some.inj (tOps.symm.trans ht)
  rcases open_map Tryz.underlying227 hd with ⟨_, hx⟩ | ⟨bm, es, clock, m, rfl, hcs, hb, _, F, hx⟩
  · simp [Rows.laid_chandlery_span_ops] at hx
  simp only [Prod.mk.injEq] at hx
  have hcell : W.cell? ⟨2, 0, none⟩ = some (.map (some bm)) := by
    have := World.var?_cell hg hv 0
    rw [Array.eq_one_of_toList hcs] at this
    simpa using this
  have h0 := World.block_lt_of_cell? W _ hcell
  have hbl : bm < W.heap.size := (Array.getElem?_eq_some_iff.1 hb).1
  have hown := World.ownsMap_of_fit (R := plainElem Tryz.prog 5) hb F (fun x _ z hz => elemAt_plainElem_int Tryz.underlying5 hz)
  rw [← hx.1] at hown
  exact ⟨Nat.lt_of_le_of_lt (Nat.zero_le _) h0, bm, _, hcell, h0, hbl, hown⟩
theorem cells_of_strs {P : Program} {w : World} {base : Nat} {sp : Nat → Bool} {held : Bool} {fuel : Nat} {t e : TypeId} {n : Nat} {cs : List Value} {zs : List Bytes} {p : List MemPlace} {H : Type} {enc : TypeId × Value → H}
    (ht : P.underlying t = some (.array n e)) (he : P.underlying e = some .string) (hce : P.cellsOf e = 1) (hct : P.cellsOf t = n)
    (h : DataW.trod enc P w base sp held fuel t cs = some (.agg (zs.map fun z => .lit (.string z)), p)) : cs = zs.map fun z => Value.string (bs z) := by
  cases fuel with
  | zero => simp [DataW.trod] at h
  | succ fuel =>
    simp only [DataW.trod, ht, hce, hct, Nat.mul_one] at h
    split at h
    · rename_i hl
      obtain ⟨xs, hm, hx⟩ := Option.map_eq_some_iff.1 h
      have hxs : xs.map (·.1) = zs.map fun z => (DataW.lit (.string z) : DataW H) := by
        have := congrArg Prod.fst hx
        simpa using this
      have hxl : xs.length = n := by simpa using Lib.mapM_length hm
      have hzl : zs.length = n := by
        have := congrArg List.length hxs
        simp at this
        omega
      apply List.ext_getElem?
      intro i
      by_cases hi : i < n
      · obtain ⟨b, hb, hf⟩ := Lib.mapM_at hm i i (by simp [hi])
        obtain ⟨s, hc, hd, _⟩ := DataW.trod_string he hf
        have h1 : cs[i]? = some (.string s) := by
          have := congrArg (·[0]?) hc
          simpa [List.getElem?_take, List.getElem?_drop] using this
        have h2 : (xs.map (·.1))[i]? = some b.1 := by simp [hb]
        rw [hxs, hd] at h2
        simp only [List.getElem?_map, Option.map_eq_some_iff, DataW.lit.injEq, Lit.string.injEq] at h2
        obtain ⟨z', hz', e2⟩ := h2
        rw [h1, List.getElem?_map, hz', Option.map_some, e2]
        rfl
      · rw [List.getElem?_eq_none (by omega), List.getElem?_eq_none (by simp; omega)]
    · cases h
set_option maxRecDepth 100000 in
theorem wordsIn_of {W : World} (h : laidMet Tryz.prog laidD W) : WordsIn W := by
  obtain ⟨g, t, cs, f, p, hg, ht, hv, hd⟩ := Lib.laidMet.reads h (n := "chandlery/dep.words") (d := Rows.laid_chandlery_dep_words) (by simp only [laidD, List.mem_cons]; right; right; left; trivial)
  obtain rfl := Option.some.inj (gWds.symm.trans hg)
  obtain rfl := Option.some.inj (tWds.symm.trans ht)
  have hcs : cs.toList = noNames.map fun z => Value.string (bs z) := cells_of_strs Tryz.underlying196 Tryz.underlying9 (by kernel_rfl) (by kernel_rfl) hd
  have hc : ∀ k, W.cell? ⟨1, k, none⟩ = (noNames.map fun z => Value.string (bs z))[k]? := fun k => by
    have := World.var?_cell hg hv k
    rw [← Array.getElem?_toList, hcs] at this
    simpa using this
  have h0 := World.block_lt_of_cell? W _ ((hc 0).trans rfl)
  exact ⟨h0, (hc 0).trans rfl, (hc 1).trans rfl, (hc 2).trans rfl, (hc 3).trans rfl, (hc 4).trans rfl, (hc 5).trans rfl, (hc 6).trans rfl⟩
set_option maxRecDepth 100000 in
theorem pkIn_of {W : World} (h : laidMetH Tryz.prog laidD W) : PkIn W := by
  rw [MakeChecks.laidMetH_plain _ _ _ (by kernel_rfl)] at h
  exact ⟨opsIn_of h, wordsIn_of h⟩
end
section
/- How the arguments of rich's statements are opened: rows, dependencies, rich dependencies. -/



open Go.ChangeShapes Go.WideShapes Go.ChangeAt Go.RowKit
set_option linter.unusedVariables false

theorem list_of {α : Type} {P : Nat → α → Prop} : ∀ n : Nat, (∀ i, i < n → ∃ t, P i t) → ∃ l : List α, l.length = n ∧ ∀ i (h : i < l.length), P i l[i]
  | 0, _ => ⟨[], rfl, fun i h => by simp at h⟩
  | n + 1, h => by
    obtain ⟨l, hl, hp⟩ := list_of n (fun i hi => h i (by omega))
    obtain ⟨t, ht⟩ := h n (by omega)
    refine ⟨l ++ [t], by simp [hl], fun i hi => ?_⟩
    rw [List.length_append] at hi
    simp at hi
    by_cases e : i < l.length
    · rw [List.getElem_append_left e]; exact hp i e
    · obtain rfl : i = l.length := by omega
      rw [List.getElem_append_right (Nat.le_refl _)]
      simpa [hl] using ht
section
variable {H : Type} {enc : TypeId × Value → H} {P : Program} {W : World} {held : Bool} {t e ti ts tu te td tr tl : TypeId} {f0 f1 f2 g0 g1 g2 r0 r1 r2 : Field} {sp : Nat → Bool}

/-- a row of elements of k cells each -/
theorem trod_row {α : Type} {encT : α → List Value} {Q : α → Prop} {k n : Nat} {cs : List Value} {x : DataW H × List MemPlace} (ht : P.underlying t = some (.slice e)) (hk : P.cellsOf e = k) (k0 : 0 < k)
    (hel : ∀ m cs x, m < n → DataW.trod enc P W 0 sp held m e cs = some x → ∃ y, cs = encT y ∧ Q y) (h : DataW.trod enc P W 0 sp held n t cs = some x) :
    ∃ A cap, ∃ l : List α, cs = [.slice A l.length cap] ∧ Rd encT k W.heap.size A cap l W ∧ ∀ y ∈ l, Q y := by
  rcases DataW.trod_slice ht h with ⟨hcs, _⟩ | ⟨a, len, cap, elems, rest, m, hnm, hcs, _, _, hl, hm, hlen, hel2, _⟩
  · exact ⟨none, 0, [], hcs, Rd.nil_ (Nat.zero_le _), fun y hy => by cases hy⟩
  · have each : ∀ i, i < len → ∃ y, (W.cells? 0 (a.add (i * k)) k = some (encT y)) ∧ Q y := fun i hi => by
      have h1 := hel2 i hi
      rw [List.getElem?_eq_getElem (by omega), hk] at h1
      obtain ⟨c, hc, hd⟩ := Option.bind_eq_some_iff.1 h1
      obtain ⟨y, rfl, hq⟩ := hel m c _ (by omega) hd
      exact ⟨y, hc, hq⟩
    obtain ⟨l, hll, hp⟩ := list_of len each
    refine ⟨some a, cap, l, by rw [hll]; exact hcs, ⟨by omega, hm, fun i hi => ?_⟩, fun y hy => by obtain ⟨i, hi, rfl⟩ := List.getElem_of_mem hy; exact (hp i hi).2⟩
    obtain ⟨hc, _⟩ := hp i hi
    obtain ⟨b, off, spot⟩ := a
    have hlt := World.cells?_block hc k0
    obtain ⟨_, hlen2, hcell⟩ := World.cells?_some hc
    have hsp : spot = none := by
      obtain ⟨hc0, _⟩ := hp 0 (by omega)
      obtain ⟨_, hlen0, hcell0⟩ := World.cells?_some hc0
      have h0 := hcell0 0 k0
      rw [List.getElem?_eq_getElem (show 0 < (encT l[0]).length by omega), Nat.zero_mul] at h0
      exact World.cell?_spot h0
    subst hsp
    refine ⟨b, off, rfl, ?_, fun j u hu => ?_⟩
    · have : (Addr.add ⟨b, off, none⟩ (i * k)).block = b := by rw [Addr.add_lit]
      rw [← this]; exact hlt
    · have hj : j < k := by have := (List.getElem?_eq_some_iff.1 hu).1; omega
      have h0 := hcell j hj
      rw [hu] at h0
      have hadd : ((⟨b, off, none⟩ : Addr).add (i * k)).add j = ⟨b, off + i * k + j, none⟩ := by rw [Addr.add_lit, Addr.add_lit]
      rw [hadd] at h0
      exact h0
theorem trod_dep {n : Nat} {cs : List Value} {x : DataW H × List MemPlace} (hd : P.underlying t = some (.struct #[g0, g1, g2])) (hG : (g0.type, g0.offset, g1.type, g1.offset, g2.type, g2.offset) = (ts, 0, tu, 1, te, 2))
    (hs : P.underlying te = some (.struct #[f0, f1, f2])) (hF : (f0.type, f0.offset, f1.type, f1.offset, f2.type, f2.offset) = (ti, 0, ts, 1, ts, 2))
    (hi : P.underlying ti = some (.int .i64)) (hst : P.underlying ts = some .string) (hu : P.underlying tu = some (.int .u8)) (hC : (P.cellsOf ti == 1 && P.cellsOf ts == 1 && P.cellsOf te == 3 && P.cellsOf tu == 1 && P.cellsOf t == 5) = true)
    (h : DataW.trod enc P W 0 sp held n t cs = some x) : ∃ d : Dp, cs = encD d ∧ d.wf := by
  simp only [Bool.and_eq_true, beq_iff_eq] at hC
  obtain ⟨⟨⟨⟨c1, c2⟩, c3⟩, c4⟩, c5⟩ := hC
  obtain ⟨xs, m, _, hx, hl, hlen, hg⟩ := DataW.trod_struct hd h
  have q0 := hg 0 g0 rfl
  have q1 := hg 1 g1 rfl
  have q2 := hg 2 g2 rfl
  simp only [Prod.mk.injEq] at hG
  match xs, hlen with
  | [y0, y1, y2], _ =>
    rw [c5] at hl
    match cs, hl with
    | [v0, v1, v2, v3, v4], _ =>
      simp only [hG, c2, c4, c3, List.drop_zero, List.drop_succ_cons, List.take_succ_cons, List.take_zero] at q0 q1 q2
      obtain ⟨s0, e0, _, w0⟩ := DataW.trod_string hst (show DataW.trod enc P W 0 sp held m ts [v0] = some y0 from q0)
      obtain ⟨k1, e1, _, w1⟩ := DataW.trod_int hu (show DataW.trod enc P W 0 sp held m tu [v1] = some y1 from q1)
      obtain ⟨e, he, hw⟩ := trod_evr hs hF hi hst (by simp [c1, c2, c3]) (show DataW.trod enc P W 0 sp held m te [v2, v3, v4] = some y2 from q2)
      cases e0; cases e1; cases he
      exact ⟨⟨s0.toList, k1, e⟩, by simp only [encD, bs_of], by rw [size_toList]; exact w0, w1, hw⟩
/-- a rich dependency, as deep as it may be -/
theorem trod_rich (hr : P.underlying tr = some (.struct #[r0, r1, r2])) (hR : (r0.type, r0.offset, r1.type, r1.offset, r2.type, r2.offset) = (tu, 0, td, 1, tl, 6)) (hl0 : P.underlying tl = some (.slice tr))
    (hd : P.underlying td = some (.struct #[g0, g1, g2])) (hG : (g0.type, g0.offset, g1.type, g1.offset, g2.type, g2.offset) = (ts, 0, tu, 1, te, 2))
    (hs : P.underlying te = some (.struct #[f0, f1, f2])) (hF : (f0.type, f0.offset, f1.type, f1.offset, f2.type, f2.offset) = (ti, 0, ts, 1, ts, 2))
    (hi : P.underlying ti = some (.int .i64)) (hst : P.underlying ts = some .string) (hu : P.underlying tu = some (.int .u8)) (hC : (P.cellsOf ti == 1 && P.cellsOf ts == 1 && P.cellsOf te == 3 && P.cellsOf tu == 1 && P.cellsOf td == 5) = true) (hC2 : (P.cellsOf tr == 7 && P.cellsOf tl == 1) = true) :
    ∀ (n : Nat) (cs : List Value) (x : DataW H × List MemPlace), DataW.trod enc P W 0 sp held n tr cs = some x → ∃ y : RV, cs = encR y ∧ RTree W.heap.size W y := by
  intro n
  induction n using Nat.strongRecOn with
  | _ n ih =>
    intro cs x h
    have hC0 := hC
    simp only [Bool.and_eq_true, beq_iff_eq] at hC hC2
    obtain ⟨⟨⟨⟨c1, c2⟩, c3⟩, c4⟩, c5⟩ := hC
    obtain ⟨c6, c7⟩ := hC2
    obtain ⟨xs, m, hm, hx, hl, hlen, hg⟩ := DataW.trod_struct hr h
    have q0 := hg 0 r0 rfl
    have q1 := hg 1 r1 rfl
    have q2 := hg 2 r2 rfl
    simp only [Prod.mk.injEq] at hR
    match xs, hlen with
    | [y0, y1, y2], _ =>
      rw [c6] at hl
      match cs, hl with
      | [v0, v1, v2, v3, v4, v5, v6], _ =>
        simp only [hR, c4, c5, c7, List.drop_zero, List.drop_succ_cons, List.take_succ_cons, List.take_zero] at q0 q1 q2
        obtain ⟨k0, e0, _, w0⟩ := DataW.trod_int hu (show DataW.trod enc P W 0 sp held m tu [v0] = some y0 from q0)
        obtain ⟨d, e1, w1⟩ := trod_dep hd hG hs hF hi hst hu hC0 (show DataW.trod enc P W 0 sp held m td [v1, v2, v3, v4, v5] = some y1 from q1)
        obtain ⟨A, cap, l, e2, hrd, hq⟩ := trod_row (encT := encR) (Q := RTree W.heap.size W) hl0 c6 (by decide) (fun m' cs' x' hm' h' => ih m' (by omega) cs' x' h') (show DataW.trod enc P W 0 sp held m tl [v6] = some y2 from q2)
        cases e0; cases e2
        simp only [encD, List.cons.injEq, and_true] at e1
        obtain ⟨rfl, rfl, rfl, rfl, rfl⟩ := e1
        exact ⟨.node k0 d A cap l, rfl, .mk w1 hrd hq⟩
end
end
end Go.Proofs.YteobmfpbgnmffaaGreatDoor
