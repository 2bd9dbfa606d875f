/- RichBx, RichReadsL, EvLaid -/
import Derived.Test.YtnfagaccbkeikaaGreatDoorRichReadsRowG45
import Derived.Test.YtnfagaccbkeikaaGreatDoorRichReadsRowG31
import Derived.Test.YtnfagaccbkeikaaGreatDoorRichReadsRowG33
import Derived.Test.YtnfagaccbkeikaaGreatDoorRichReadsRowG42
import Derived.Test.YtnfagaccbkeikaaGreatDoorRichReadsRowG05
import Derived.Test.YtnfagaccbkeikaaGreatDoorRichReadsRowG02
import Derived.Lay
import Derived.LaidMore
import Derived.LaidLaws
import Derived.Lib.LaidIn
import Derived.Lib.LaidU8
namespace Go.Proofs.YtnfagaccbkeikaaGreatDoor
section
/- A rich dependency in a box of the call's own, through calls; what Show answers, what Parse refuses: plain facts. -/



open Go.RowKit Go.Shelf
set_option linter.unusedVariables false

structure BX (a : RV) (m : Nat) (W : World) : Prop where
  box : Box7 m (.int .u8 a.kind) (.string (bs a.dep.name)) (.int .u8 a.dep.op) (.int .i64 a.dep.evr.epoch) (.string (bs a.dep.evr.ver)) (.string (bs a.dep.evr.rel)) (.slice a.addr a.args.length a.cap) W
  tree : RTree W.heap.size W a
theorem BX.then {W W' : World} {a : RV} {m : Nat} (h : BX a m W) (hb : Below W.heap.size W W') : BX a m W' :=
  ⟨h.box.past (hb.mono h.box.2.2), (h.tree.keeps hb).more hb.size⟩
theorem BX.alloc {W : World} {a : RV} {m : Nat} (h : BX a m W) (o : Obj) : BX a m (W.alloc o) := h.then ((Below.refl _ _).alloc (Nat.le_refl _) o)
theorem BX.new {w : World} {a : RV} (ha : RTree w.heap.size w a) : BX a w.heap.size (w.alloc (.cells #[.int .u8 a.kind, .string (bs a.dep.name), .int .u8 a.dep.op, .int .i64 a.dep.evr.epoch, .string (bs a.dep.evr.ver), .string (bs a.dep.evr.rel), .slice a.addr a.args.length a.cap] 29)) :=
  ⟨Box7.new w _ _ _ _ _ _ _ _, (ha.keeps ((Below.refl _ _).alloc (Nat.le_refl _) _)).more (by simp)⟩
theorem BX.lt {W : World} {a : RV} {m : Nat} (h : BX a m W) : m < W.heap.size := h.box.2.2
end
section
/- RichReads: what is read of any text is the document's, or it is refused, with the place. -/



open Go.RowKit Go.Shelf
set_option linter.unusedVariables false

set_option maxRecDepth 100000 in
set_option maxHeartbeats 16000000 in
theorem richReads_row (w : World) (hI : RichIn w) (s : ByteArray) (hs : s.size ≤ maxLen) : Calls Tryz.prog 3 #[.string s] w fun e w' => e = .returned (.bool true) ∧ Below w.heap.size w w' := by
  have PA := Lib.hid (fun W (o : Below w.heap.size w W) => rparse_any s W hs (hI.below o))
  have PB := Lib.hid (fun W => rtparse_any s W hs)
  have AW := Lib.hid (fun W (h : Below w.heap.size w W) => rawake W (hI.below h))
  have SM := Lib.hid (fun (a b : RV) W (h : RTree W.heap.size W a) (h2 : RTree W.heap.size W b) => rsame_any a.ht a b W (Nat.le_refl _) h h2)
  unfold ParsePost at PA PB
  unfold RV.val at PA PB SM
  clear hI
  by_cases hl : 10000 < s.size
  · have hl' : (10000 : Int) < (s.size : Int) := by omega
    clear hs hl PA PB SM
    go_enter Tryz.func3, Tryz.ntmps3
    go_wp2_with fail
    go_at_call 10
    refine (AW.out _ (Below.refl _ _)).mono ?_
    rintro e w2 ⟨rfl, h⟩
    go_wp2
    go_ret
    exact ⟨rfl, h⟩
  have hl' : ¬ (10000 : Int) < (s.size : Int) := by omega
  have hl'' : decide ((10000 : Int) < (s.size : Int)) = false := decide_eq_false hl'
  clear hl hs
  go_enter Tryz.func3, Tryz.ntmps3
  go_wp2_with fail
  clear hl' hl''
  go_at_call 11
  obtain ⟨r0, p, n, hpl⟩ : ∃ r0 p n, parseL s.toList = (r0, p, n) := ⟨_, _, _, rfl⟩
  rw [hpl] at PA PB
  dsimp only at PA PB
  clear hpl
  refine (PA.out _ (Below.refl _ _)).mono ?_
  rintro en w1 ⟨a, hra, rfl, hTa, h⟩
  have B1 := Lib.hid (h.alloc h.size (.cells #[.int .u8 a.kind, .string (bs a.dep.name), .int .u8 a.dep.op, .int .i64 a.dep.evr.epoch, .string (bs a.dep.evr.ver), .string (bs a.dep.evr.rel), .slice a.addr a.args.length a.cap] 29))
  have X1 := Lib.hid (BX.new hTa)
  have HRA := Lib.hid hra
  clear h hTa hra PA
  go_wp2_with fail
  generalize w1.alloc (.cells #[.int .u8 a.kind, .string (bs a.dep.name), .int .u8 a.dep.op, .int .i64 a.dep.evr.epoch, .string (bs a.dep.evr.ver), .string (bs a.dep.evr.rel), .slice a.addr a.args.length a.cap] 29) = V1 at *
  generalize w1.heap.size = ka at *
  refine (PB.out _).mono ?_
  rintro en w2 ⟨b, hrb, rfl, hTb, h⟩
  have B2 := Lib.hid ((B1.out.trans (h.mono B1.out.size)).alloc (by have := B1.out.size; have := h.size; omega) (.cells #[.int .u8 b.kind, .string (bs b.dep.name), .int .u8 b.dep.op, .int .i64 b.dep.evr.epoch, .string (bs b.dep.evr.ver), .string (bs b.dep.evr.rel), .slice b.addr b.args.length b.cap] 29))
  have X2 := Lib.hid ((X1.out.then h).alloc (.cells #[.int .u8 b.kind, .string (bs b.dep.name), .int .u8 b.dep.op, .int .i64 b.dep.evr.epoch, .string (bs b.dep.evr.ver), .string (bs b.dep.evr.rel), .slice b.addr b.args.length b.cap] 29))
  have Y2 := Lib.hid (BX.new hTb)
  have HRB := Lib.hid (show sameT a.tree b.tree = true by rw [HRA.out, hrb]; exact sameT_self _)
  clear h hTb hrb PB X1 B1
  obtain ⟨⟨c0, c1, c2, c3, c4, c5, c6⟩, _, _⟩ := X2.out.box
  obtain ⟨⟨d0, d1, d2, d3, d4, d5, d6⟩, _, _⟩ := Y2.out.box
  go_wp2_with fail
  go_at_call 13
  refine (SM.out a b _ X2.out.tree Y2.out.tree).mono ?_
  rintro en w3 ⟨rfl, h⟩
  have B3 := Lib.hid (B2.out.trans (h.mono B2.out.size))
  rw [HRB.out]
  clear h X2 Y2 B2 HRA HRB SM c0 c1 c2 c3 c4 c5 c6 d0 d1 d2 d3 d4 d5 d6
  go_wp2_with fail
  go_at_call 10
  refine (AW.out _ B3.out).mono ?_
  rintro e w4 ⟨rfl, h⟩
  have B4 := Lib.hid (B3.out.trans (h.mono B3.out.size))
  clear h
  go_wp2_with fail
  go_ret
  exact ⟨rfl, B4.out⟩
end
section
/- The listed variables of evr's statements: what the condition gives the walks. -/








open Go.ChangeShapes Go.WideShapes Go.ChangeAt Go.RowKit

theorem tPow : (Tryz.prog.globals[6]?).map (·.type) = some 296 := by kernel_rfl
theorem tSyn : (Tryz.prog.globals[4]?).map (·.type) = some 184 := by kernel_rfl
theorem tRan : (Tryz.prog.globals[5]?).map (·.type) = some 184 := by kernel_rfl
theorem evIn_gen {W : World} {L : List (String × DataW Unit)} (h : laidMet Tryz.prog L W) (m1 : ("internal/strconv.uint64pow10", Lib.tabData .u64 Lib.pow10Tab) ∈ L)
    (m2 : ("strconv.ErrSyntax", DataW.iface "*errors.errorString" (.ptr (.agg [.lit (.string [105, 110, 118, 97, 108, 105, 100, 32, 115, 121, 110, 116, 97, 120])]))) ∈ L)
    (m3 : ("strconv.ErrRange", DataW.iface "*errors.errorString" (.ptr (.agg [.lit (.string [118, 97, 108, 117, 101, 32, 111, 117, 116, 32, 111, 102, 32, 114, 97, 110, 103, 101])]))) ∈ L) (hs : W.ShapedOpen Tryz.prog) : EvIn W := by
  obtain ⟨m, hm⟩ := Tryz.laysM145.s1_3 W hs
  have hm : W.cell? ⟨3, 0, none⟩ = some (.int .i64 m) := hm
  have b1 := World.block_lt_of_cell? W _ hm
  have hms := Tryz.underlying184
  have sent : ∀ {n : String} {g : Nat} {d : DataW Unit}, Tryz.prog.globalNamed n = some g → (Tryz.prog.globals[g]?).map (·.type) = some 184 → (n, DataW.iface "*errors.errorString" d) ∈ L → g < W.heap.size ∧ ∃ t p, W.var? Tryz.prog n = some #[.iface t p] := by
    intro n g d hg hty hmem
    obtain ⟨g', t', cs, fuel, p, hg', ht', hvar, hd⟩ := Lib.laidMet.reads h hmem
    obtain rfl := Option.some.inj (hg.symm.trans hg')
    obtain rfl := Option.some.inj (hty.symm.trans ht')
    obtain ⟨_, t, v, hcs, _⟩ := iface_of_trod hms hd
    have hcs : cs = #[.iface t v] := Array.eq_one_of_toList hcs
    subst hcs
    have hc := World.var?_cell hg hvar 0
    exact ⟨World.block_lt_of_cell? W _ (by simpa using hc), t, v, hvar⟩
  have hpow : Lib.TabIs Tryz.prog W "internal/strconv.uint64pow10" .u64 Lib.pow10Tab := by
    obtain ⟨g', t', cs, fuel, p, hg', ht', hvar, hd⟩ := Lib.laidMet.reads h (n := "internal/strconv.uint64pow10") (d := Lib.tabData .u64 Lib.pow10Tab) m1
    obtain rfl := Option.some.inj (gPow.symm.trans hg')
    obtain rfl := Option.some.inj (tPow.symm.trans ht')
    unfold Lib.TabIs
    rw [hvar, ← Lib.cells_of_tab Tryz.underlying296 Tryz.underlying273 (by kernel_rfl) (by kernel_rfl) hd]
  have b2 := World.block_lt_of_cell? W _ (Lib.TabIs.cell hpow gPow 0 (by decide))
  obtain ⟨b3, t, p, e3⟩ := sent gSyn tSyn (d := .ptr (.agg [.lit (.string [105, 110, 118, 97, 108, 105, 100, 32, 115, 121, 110, 116, 97, 120])])) m2
  obtain ⟨b4, t2, p2, e4⟩ := sent gRan tRan (d := .ptr (.agg [.lit (.string [118, 97, 108, 117, 101, 32, 111, 117, 116, 32, 111, 102, 32, 114, 97, 110, 103, 101])])) m3
  exact ⟨Nat.lt_of_le_of_lt (Nat.zero_le _) b1, b1, b2, b3, b4, ⟨m, hm⟩, hpow, ⟨t, p, e3⟩, ⟨t2, p2, e4⟩⟩
/-- the row's step where the walk wants the laid variables and the world's shape too -/
theorem handed_laid_shaped {H : Type} {enc : TypeId × Value → H} {a : Assume} {C : Checked} {os : Os} {f : FuncId} {fn : Func} {s : ChangeSpec} {conds : List PathCond} {apart fresh handsOn again : Bool} {X : World → Array Value → Prop}
    (hX : ∀ (w w' : World) (args : Array Value), w.heap = w'.heap → X w args → X w' args)
    (own : ownKnob C.prog.godebug = none) (started : os.Started) (noInit : C.prog.inits.idxOf? f = none) (hfn : C.prog.funcs[f]? = some fn)
    (witness : ∃ (w : World) (tape : Tape) (i : Input), w.os = os ∧ (w.forCall tape i).Shaped C.prog ∧ i.vars = [] ∧ Input.okWide C.prog (w.forCall tape i) .any w.heap.size f i ∧
      ((s.pre enc C.prog fn conds apart (w.forCall tape i).memory i.args ∧ X (w.forCall tape i).memory i.args) ∧ sizedMet enc C.prog fn (OpenSpec.ofChange s) apart (w.forCall tape i).memory i.args) ∧ a.holds C.prog (lone (Frame.enter C.prog f i.args .normal) [] (w.forCall tape i)))
    (walk : ∀ (W : World) (base : Nat) (args : Array Value) (ds gs : List (DataW H)) (before : List MemPlace),
      (∀ (j : Nat) t v, fn.params[j]? = some t → args[j]? = some v → Value.okWide C.prog W .any base t v) →
      DataW.Whole enc C.prog fn.params.toList s.vars apart W args.toList ds gs before →
      conds.all (PathCond.test C.prog ⟨fn.params.toList, ds, s.plain.varTypes C.prog, gs⟩) = true →
      (DataW.weightsEach C.prog (fn.params.toList ++ s.plain.varTypes C.prog) (ds ++ gs)).all (· ≤ reachBytes) = true → X W args → W.ShapedOpen C.prog →
      Calls C.prog f args W fun e W' => ∃ v, e = .returned v ∧ s.post enc C.prog fn apart fresh handsOn again W args v W') :
    ReturnsInHanded a C os f .any (fun w args => (s.pre enc C.prog fn conds apart w args ∧ X w args) ∧ sizedMet enc C.prog fn (OpenSpec.ofChange s) apart w args) (s.post enc C.prog fn apart fresh handsOn again) := by
  refine returnsInHanded_of_calls own started noInit witness ?_
  intro w tape i _ hsh _ hok hpre _
  obtain ⟨_, _, _, fn', hfn', _, _, _, _, hval⟩ := hok
  have e : fn' = fn := Option.some.inj (hfn'.symm.trans hfn)
  subst e
  obtain ⟨⟨⟨ds, gs, before, hw, hc⟩, hx⟩, hz⟩ := hpre
  have hw' := DataW.Whole.of_heap (w' := w.forCall tape i) (by rfl) hw
  refine (walk (w.forCall tape i) w.heap.size i.args ds gs before hval hw' hc (hz.weights hw) (hX _ _ _ (by rfl) hx) hsh).mono fun e W' ⟨v, he, hp⟩ => ?_
  subst he
  exact ChangeSpec.post_blind hp
end
end Go.Proofs.YtnfagaccbkeikaaGreatDoor
