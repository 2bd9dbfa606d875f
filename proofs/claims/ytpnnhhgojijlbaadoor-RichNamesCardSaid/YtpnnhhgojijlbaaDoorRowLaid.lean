/- How the arguments of the tied statements are opened: EVRs, dependencies. -/
import Derived.Test.YtpnnhhgojijlbaaDoorVmZ
import Derived.Test.YtpnnhhgojijlbaaDoorRowOpen
import Derived.ChangeSame
import Derived.Lib.SmallJoins
namespace Go.Proofs.YtpnnhhgojijlbaaDoor
open Go.ChangeShapes Go.WideShapes Go.ChangeAt Go.RowKit

def Evr.wf (e : Evr) : Prop := (Lit.int .i64 e.epoch).wf = true ∧ e.ver.length ≤ maxLen ∧ e.rel.length ≤ maxLen
def Dp.wf (d : Dp) : Prop := d.name.length ≤ maxLen ∧ (Lit.int .u8 d.op).wf = true ∧ d.evr.wf

section
variable {H : Type} {enc : TypeId × Value → H} {P : Program} {W : World} {held : Bool} {t ti ts tu te : TypeId} {f0 f1 f2 g0 g1 g2 : Field} {d : DataW H} {p : List MemPlace}

theorem trod_evr {base n : Nat} {sp : Nat → Bool} {cs : List Value} {x : DataW H × List MemPlace} (hs : P.underlying t = some (.struct #[f0, f1, f2])) (hF : (f0.type, f0.offset, f1.type, f1.offset, f2.type, f2.offset) = (ti, 0, ts, 1, ts, 2))
    (hi : P.underlying ti = some (.int .i64)) (hst : P.underlying ts = some .string) (hC : (P.cellsOf ti == 1 && P.cellsOf ts == 1 && P.cellsOf t == 3) = true)
    (h : DataW.trod enc P W base sp held n t cs = some x) : ∃ e : Evr, cs = [.int .i64 e.epoch, .string (bs e.ver), .string (bs e.rel)] ∧ e.wf := by
  simp only [Bool.and_eq_true, beq_iff_eq] at hC
  obtain ⟨⟨c1, c2⟩, c3⟩ := hC
  obtain ⟨xs, m, _, hx, hl, hlen, hg⟩ := DataW.trod_struct hs h
  have q0 := hg 0 f0 rfl
  have q1 := hg 1 f1 rfl
  have q2 := hg 2 f2 rfl
  simp only [Prod.mk.injEq] at hF
  match xs, hlen with
  | [y0, y1, y2], _ =>
    rw [c3] at hl
    match cs, hl with
    | [v0, v1, v2], _ =>
      simp only [hF, c1, c2, List.drop_zero, List.drop_succ_cons, List.take_succ_cons, List.take_zero] at q0 q1 q2
      obtain ⟨k, e0, _, w0⟩ := DataW.trod_int hi (show DataW.trod enc P W base sp held m ti [v0] = some y0 from q0)
      obtain ⟨s1, e1, _, w1⟩ := DataW.trod_string hst (show DataW.trod enc P W base sp held m ts [v1] = some y1 from q1)
      obtain ⟨s2, e2, _, w2⟩ := DataW.trod_string hst (show DataW.trod enc P W base sp held m ts [v2] = some y2 from q2)
      cases e0; cases e1; cases e2
      exact ⟨⟨k, s1.toList, s2.toList⟩, by simp only [bs_of], w0, by rw [size_toList]; exact w1, by rw [size_toList]; exact w2⟩
theorem arg_evr {r : Reach} {b0 : Nat} {v : Value} (hs : P.underlying t = some (.struct #[f0, f1, f2])) (hF : (f0.type, f0.offset, f1.type, f1.offset, f2.type, f2.offset) = (ti, 0, ts, 1, ts, 2))
    (hi : P.underlying ti = some (.int .i64)) (hst : P.underlying ts = some .string) (hC : (P.cellsOf ti == 1 && P.cellsOf ts == 1 && P.cellsOf t == 3) = true)
    (hval : Value.okWide P W r b0 t v) {sp : Nat → Bool} (h : DataW.Trod enc P W 0 sp held t v d p) : ∃ e : Evr, v = e.val ∧ e.wf := by
  obtain ⟨cs, rfl, hsz⟩ := okWide_struct hs hval
  obtain ⟨fuel, hf⟩ := h
  obtain ⟨e, he, hw⟩ := trod_evr hs hF hi hst hC hf
  refine ⟨e, ?_, hw⟩
  unfold Evr.val
  congr 1
  apply Array.ext'
  simpa [Value.cells] using he
theorem arg_dep {r : Reach} {b0 : Nat} {v : Value} (hd : P.underlying t = some (.struct #[g0, g1, g2])) (hG : (g0.type, g0.offset, g1.type, g1.offset, g2.type, g2.offset) = (ts, 0, tu, 1, te, 2))
    (hs : P.underlying te = some (.struct #[f0, f1, f2])) (hF : (f0.type, f0.offset, f1.type, f1.offset, f2.type, f2.offset) = (ti, 0, ts, 1, ts, 2))
    (hi : P.underlying ti = some (.int .i64)) (hst : P.underlying ts = some .string) (hu : P.underlying tu = some (.int .u8)) (hC : (P.cellsOf ti == 1 && P.cellsOf ts == 1 && P.cellsOf te == 3 && P.cellsOf tu == 1 && P.cellsOf t == 5) = true)
    (hval : Value.okWide P W r b0 t v) {sp : Nat → Bool} (h : DataW.Trod enc P W 0 sp held t v d p) : ∃ x : Dp, v = x.val ∧ x.wf := by
  have hC0 := hC
  simp only [Bool.and_eq_true, beq_iff_eq] at hC
  obtain ⟨⟨⟨⟨c1, c2⟩, c3⟩, c4⟩, c5⟩ := hC
  obtain ⟨cs, rfl, hsz⟩ := okWide_struct hd hval
  obtain ⟨fuel, hf⟩ := h
  obtain ⟨xs, m, _, hx, hl, hlen, hg⟩ := DataW.trod_struct hd hf
  have q0 := hg 0 g0 rfl
  have q1 := hg 1 g1 rfl
  have q2 := hg 2 g2 rfl
  simp only [Prod.mk.injEq] at hG
  obtain ⟨l⟩ := cs
  match xs, hlen with
  | [y0, y1, y2], _ =>
    rw [c5] at hl
    match l, (show l.length = 5 by simpa [Value.cells] using hl) with
    | [v0, v1, v2, v3, v4], _ =>
      simp only [hG, Value.cells, c2, c4, c3, List.drop_zero, List.drop_succ_cons, List.take_succ_cons, List.take_zero] at q0 q1 q2
      obtain ⟨s0, e0, _, w0⟩ := DataW.trod_string hst (show DataW.trod enc P W 0 sp held m ts [v0] = some y0 from q0)
      obtain ⟨k1, e1, _, w1⟩ := DataW.trod_int hu (show DataW.trod enc P W 0 sp held m tu [v1] = some y1 from q1)
      obtain ⟨e, he, hw⟩ := trod_evr hs hF hi hst (by simp [c1, c2, c3]) (show DataW.trod enc P W 0 sp held m te [v2, v3, v4] = some y2 from q2)
      cases e0; cases e1; cases he
      exact ⟨⟨s0.toList, k1, e⟩, by simp only [Dp.val, bs_of], by rw [size_toList]; exact w0, w1, hw⟩
end
theorem u8_wf {n : Int} (h : (Lit.int .u8 n).wf = true) : 0 ≤ n ∧ n ≤ 255 := by simpa [Lit.wf, IntKind.min, IntKind.max, IntKind.signed, IntKind.bits] using h
theorem i64_wf {n : Int} (h : (Lit.int .i64 n).wf = true) : -9223372036854775808 ≤ n ∧ n ≤ 9223372036854775807 := by simpa [Lit.wf, IntKind.min, IntKind.max, IntKind.signed, IntKind.bits] using h
end Go.Proofs.YtpnnhhgojijlbaaDoor
