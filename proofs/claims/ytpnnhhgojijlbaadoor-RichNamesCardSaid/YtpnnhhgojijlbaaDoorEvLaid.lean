/- The listed variables of evr's statements: what the condition gives the walks. -/
import Derived.Test.YtpnnhhgojijlbaaDoorEvWalk
import Derived.Test.YtpnnhhgojijlbaaDoorRowLaid
import Derived.Lay
import Derived.LaidMore
import Derived.LaidLaws
import Derived.Lib.LaidIn
import Derived.Lib.LaidU8
namespace Go.Proofs.YtpnnhhgojijlbaaDoor
open Go.ChangeShapes Go.WideShapes Go.ChangeAt Go.RowKit

def laidE : List (String × DataW Unit) := [("math/bits.deBruijn32tab", Rows.laid_math_bits_deBruijn32tab), ("math/bits.deBruijn64tab", Rows.laid_math_bits_deBruijn64tab), ("internal/strconv.uint64pow10", Rows.laid_internal_strconv_uint64pow10), ("unicode/utf8.acceptRanges", Rows.laid_unicode_utf8_acceptRanges), ("strconv.ErrRange", Rows.laid_strconv_ErrRange), ("strconv.ErrSyntax", Rows.laid_strconv_ErrSyntax), ("unicode/utf8.first", Rows.laid_unicode_utf8_first)]
theorem tPow : (Tryd.prog.globals[6]?).map (·.type) = some 198 := by kernel_rfl
theorem tSyn : (Tryd.prog.globals[4]?).map (·.type) = some 105 := by kernel_rfl
theorem tRan : (Tryd.prog.globals[5]?).map (·.type) = some 105 := by kernel_rfl
theorem evIn_gen {W : World} {L : List (String × DataW Unit)} (h : laidMet Tryd.prog L W) (m1 : ("internal/strconv.uint64pow10", Lib.tabData .u64 Lib.pow10Tab) ∈ L)
    (m2 : ("strconv.ErrSyntax", DataW.iface "*errors.errorString" (.ptr (.agg [.lit (.string [105, 110, 118, 97, 108, 105, 100, 32, 115, 121, 110, 116, 97, 120])]))) ∈ L)
    (m3 : ("strconv.ErrRange", DataW.iface "*errors.errorString" (.ptr (.agg [.lit (.string [118, 97, 108, 117, 101, 32, 111, 117, 116, 32, 111, 102, 32, 114, 97, 110, 103, 101])]))) ∈ L) (hs : W.ShapedOpen Tryd.prog) : EvIn W := by
  obtain ⟨m, hm⟩ := Tryd.laysM145.s1_3 W hs
  have hm : W.cell? ⟨3, 0, none⟩ = some (.int .i64 m) := hm
  have b1 := World.block_lt_of_cell? W _ hm
  have hms := Tryd.underlying105
  have sent : ∀ {n : String} {g : Nat} {d : DataW Unit}, Tryd.prog.globalNamed n = some g → (Tryd.prog.globals[g]?).map (·.type) = some 105 → (n, DataW.iface "*errors.errorString" d) ∈ L → g < W.heap.size ∧ ∃ t p, W.var? Tryd.prog n = some #[.iface t p] := by
    intro n g d hg hty hmem
    obtain ⟨g', t', cs, fuel, p, hg', ht', hvar, hd⟩ := Lib.laidMet.reads h hmem
    obtain rfl := Option.some.inj (hg.symm.trans hg')
    obtain rfl := Option.some.inj (hty.symm.trans ht')
    obtain ⟨_, t, v, hcs, _⟩ := iface_of_trod hms hd
    have hcs : cs = #[.iface t v] := Array.eq_one_of_toList hcs
    subst hcs
    have hc := World.var?_cell hg hvar 0
    exact ⟨World.block_lt_of_cell? W _ (by simpa using hc), t, v, hvar⟩
  have hpow : Lib.TabIs Tryd.prog W "internal/strconv.uint64pow10" .u64 Lib.pow10Tab := by
    obtain ⟨g', t', cs, fuel, p, hg', ht', hvar, hd⟩ := Lib.laidMet.reads h (n := "internal/strconv.uint64pow10") (d := Lib.tabData .u64 Lib.pow10Tab) m1
    obtain rfl := Option.some.inj (gPow.symm.trans hg')
    obtain rfl := Option.some.inj (tPow.symm.trans ht')
    unfold Lib.TabIs
    rw [hvar, ← Lib.cells_of_tab Tryd.underlying198 Tryd.underlying180 (by kernel_rfl) (by kernel_rfl) hd]
  have b2 := World.block_lt_of_cell? W _ (Lib.TabIs.cell hpow gPow 0 (by decide))
  obtain ⟨b3, t, p, e3⟩ := sent gSyn tSyn (d := .ptr (.agg [.lit (.string [105, 110, 118, 97, 108, 105, 100, 32, 115, 121, 110, 116, 97, 120])])) m2
  obtain ⟨b4, t2, p2, e4⟩ := sent gRan tRan (d := .ptr (.agg [.lit (.string [118, 97, 108, 117, 101, 32, 111, 117, 116, 32, 111, 102, 32, 114, 97, 110, 103, 101])])) m3
  exact ⟨Nat.lt_of_le_of_lt (Nat.zero_le _) b1, b1, b2, b3, b4, ⟨m, hm⟩, hpow, ⟨t, p, e3⟩, ⟨t2, p2, e4⟩⟩
theorem evIn_of {W : World} (h : laidMetH Tryd.prog laidE W) (hs : W.ShapedOpen Tryd.prog) : EvIn W := by
  rw [MakeChecks.laidMetH_plain _ _ _ (by kernel_rfl)] at h
  exact evIn_gen h (by simp only [laidE, List.mem_cons]; right; right; left; rfl) (by simp only [laidE, List.mem_cons]; right; right; right; right; right; left; rfl) (by simp only [laidE, List.mem_cons]; right; right; right; right; left; rfl) hs
/-- the row's step where the walk wants the laid variables and the world's shape too -/
theorem handed_laid_shaped {H : Type} {enc : TypeId × Value → H} {a : Assume} {C : Checked} {os : Os} {f : FuncId} {fn : Func} {s : ChangeSpec} {conds : List PathCond} {apart fresh handsOn again : Bool} {X : World → Array Value → Prop}
    (hX : ∀ (w w' : World) (args : Array Value), w.heap = w'.heap → X w args → X w' args)
    (own : ownKnob C.prog.godebug = none) (started : os.Started) (noInit : C.prog.inits.idxOf? f = none) (hfn : C.prog.funcs[f]? = some fn)
    (witness : ∃ (w : World) (tape : Tape) (i : Input), w.os = os ∧ (w.forCall tape i).Shaped C.prog ∧ i.vars = [] ∧ Input.okWide C.prog (w.forCall tape i) .any w.heap.size f i ∧
      ((s.pre enc C.prog fn conds apart (w.forCall tape i).memory i.args ∧ X (w.forCall tape i).memory i.args) ∧ sizedMet enc C.prog fn (OpenSpec.ofChange s) apart (w.forCall tape i).memory i.args) ∧ a.holds C.prog (lone (Frame.enter C.prog f i.args .normal) [] (w.forCall tape i)))
    (walk : ∀ (W : World) (base : Nat) (args : Array Value) (ds gs : List (DataW H)) (before : List MemPlace),
      (∀ (j : Nat) t v, fn.params[j]? = some t → args[j]? = some v → Value.okWide C.prog W .any base t v) →
      DataW.Whole enc C.prog fn.params.toList s.vars apart W args.toList ds gs before →
      conds.all (PathCond.test C.prog ⟨fn.params.toList, ds, s.plain.varTypes C.prog, gs⟩) = true →
      (DataW.weightsEach C.prog (fn.params.toList ++ s.plain.varTypes C.prog) (ds ++ gs)).all (· ≤ reachBytes) = true → X W args → W.ShapedOpen C.prog →
      Calls C.prog f args W fun e W' => ∃ v, e = .returned v ∧ s.post enc C.prog fn apart fresh handsOn again W args v W') :
    ReturnsInHanded a C os f .any (fun w args => (s.pre enc C.prog fn conds apart w args ∧ X w args) ∧ sizedMet enc C.prog fn (OpenSpec.ofChange s) apart w args) (s.post enc C.prog fn apart fresh handsOn again) := by
  refine returnsInHanded_of_calls own started noInit witness ?_
  intro w tape i _ hsh _ hok hpre _
  obtain ⟨_, _, _, fn', hfn', _, _, _, _, hval⟩ := hok
  have e : fn' = fn := Option.some.inj (hfn'.symm.trans hfn)
  subst e
  obtain ⟨⟨⟨ds, gs, before, hw, hc⟩, hx⟩, hz⟩ := hpre
  have hw' := DataW.Whole.of_heap (w' := w.forCall tape i) (by rfl) hw
  refine (walk (w.forCall tape i) w.heap.size i.args ds gs before hval hw' hc (hz.weights hw) (hX _ _ _ (by rfl) hx) hsh).mono fun e W' ⟨v, he, hp⟩ => ?_
  subst he
  exact ChangeSpec.post_blind hp
end Go.Proofs.YtpnnhhgojijlbaaDoor
