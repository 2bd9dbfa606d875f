/- PkArgs -/
import Derived.Test.YteobmfpbgnmffaaGreatDoorPkgCopiesRowG19
import Derived.Test.YteobmfpbgnmffaaGreatDoorPkgCopiesRowG08
import Derived.Test.YteobmfpbgnmffaaGreatDoorPkgCopiesRowG46
set_option linter.unusedSimpArgs false
set_option linter.unusedVariables false
/- How the arguments of pkg's statements are opened: dependencies in rows, rich dependencies, packages. -/



namespace Go.Proofs.YteobmfpbgnmffaaGreatDoor
open Go.ChangeShapes Go.WideShapes Go.ChangeAt Go.RowKit
set_option linter.unusedVariables false

section
variable {H : Type} {enc : TypeId × Value → H} {P : Program} {W : World} {held : Bool} {t e ti ts tu te td tr tl : TypeId} {f0 f1 f2 g0 g1 g2 r0 r1 r2 : Field} {sp : Nat → Bool}

/-- a dependency that came in, with its texts' weights -/
theorem arg_depw {r : Reach} {b0 : Nat} {v : Value} {d : DataW H} {p : List MemPlace} (hd : P.underlying t = some (.struct #[g0, g1, g2])) (hG : (g0.type, g0.offset, g1.type, g1.offset, g2.type, g2.offset) = (ts, 0, tu, 1, te, 2))
    (hs : P.underlying te = some (.struct #[f0, f1, f2])) (hF : (f0.type, f0.offset, f1.type, f1.offset, f2.type, f2.offset) = (ti, 0, ts, 1, ts, 2))
    (hi : P.underlying ti = some (.int .i64)) (hst : P.underlying ts = some .string) (hu : P.underlying tu = some (.int .u8)) (hC : (P.cellsOf ti == 1 && P.cellsOf ts == 1 && P.cellsOf te == 3 && P.cellsOf tu == 1 && P.cellsOf t == 5) = true)
    (hval : Value.okWide P W r b0 t v) (h : DataW.Trod enc P W 0 sp held t v d p) : ∃ x : Dp, v = x.val ∧ x.wf ∧ x.name.length ∈ d.weights P t ∧ x.evr.ver.length ∈ d.weights P t := by
  simp only [Bool.and_eq_true, beq_iff_eq] at hC
  obtain ⟨⟨⟨⟨c1, c2⟩, c3⟩, c4⟩, c5⟩ := hC
  obtain ⟨cs, rfl, hsz⟩ := okWide_struct hd hval
  obtain ⟨fuel, hf⟩ := h
  obtain ⟨xs, m, _, hx, hl, hlen, hg⟩ := DataW.trod_struct hd hf
  have q0 := hg 0 g0 rfl
  have q1 := hg 1 g1 rfl
  have q2 := hg 2 g2 rfl
  simp only [Prod.mk.injEq] at hG hF
  obtain ⟨l⟩ := cs
  match xs, hlen with
  | [y0, y1, y2], _ =>
    rw [c5] at hl
    match l, (show l.length = 5 by simpa [Value.cells] using hl) with
    | [v0, v1, v2, v3, v4], _ =>
      simp only [hG, Value.cells, c2, c4, c3, List.drop_zero, List.drop_succ_cons, List.take_succ_cons, List.take_zero] at q0 q1 q2
      obtain ⟨s0, e0, d0, w0⟩ := DataW.trod_string hst (show DataW.trod enc P W 0 sp held m ts [v0] = some y0 from q0)
      obtain ⟨k1, e1, d1, w1⟩ := DataW.trod_int hu (show DataW.trod enc P W 0 sp held m tu [v1] = some y1 from q1)
      obtain ⟨zs, m2, _, hx2, hl2, hlen2, hg2⟩ := DataW.trod_struct hs (show DataW.trod enc P W 0 sp held m te [v2, v3, v4] = some y2 from q2)
      have p0 := hg2 0 f0 rfl
      have p1 := hg2 1 f1 rfl
      have p2 := hg2 2 f2 rfl
      match zs, hlen2 with
      | [z0, z1, z2], _ =>
        simp only [hF, c1, c2, List.drop_zero, List.drop_succ_cons, List.take_succ_cons, List.take_zero] at p0 p1 p2
        obtain ⟨k, e2, d2, w2⟩ := DataW.trod_int hi (show DataW.trod enc P W 0 sp held m2 ti [v2] = some z0 from p0)
        obtain ⟨s1, e3, d3, w3⟩ := DataW.trod_string hst (show DataW.trod enc P W 0 sp held m2 ts [v3] = some z1 from p1)
        obtain ⟨s2, e4, d4, w4⟩ := DataW.trod_string hst (show DataW.trod enc P W 0 sp held m2 ts [v4] = some z2 from p2)
        cases e0; cases e1; cases e2; cases e3; cases e4
        refine ⟨⟨s0.toList, k1, ⟨k, s1.toList, s2.toList⟩⟩, by simp only [Dp.val, bs_of], ⟨by rw [size_toList]; exact w0, w1, w2, by rw [size_toList]; exact w3, by rw [size_toList]; exact w4⟩, ?_, ?_⟩
        · rw [(Prod.mk.inj hx).1, d0]
          have z0 : s0.toList.length = s0.data.size := by rw [size_toList]; rfl
          simp [DataW.weights, DataW.weightsEach, hd, z0]
        · rw [(Prod.mk.inj hx).1, hx2, d3]
          have z1 : s1.toList.length = s1.data.size := by rw [size_toList]; rfl
          simp [DataW.weights, DataW.weightsEach, hd, hs, hG, z1]
variable {tD tS : TypeId} {k0 k1 k2 k3 k4 k5 k6 k7 k8 k9 k10 k11 k12 : Field}
theorem arg_pk {r : Reach} {b0 : Nat} {v : Value} {d : DataW H} {p : List MemPlace} (hp : P.underlying t = some (.struct #[k0, k1, k2, k3, k4, k5, k6, k7, k8, k9, k10, k11, k12])) (hK : (k0.type, k0.offset, k1.type, k1.offset, k2.type, k2.offset, k3.type, k3.offset, k4.type, k4.offset, k5.type, k5.offset, k6.type, k6.offset, k7.type, k7.offset, k8.type, k8.offset, k9.type, k9.offset, k10.type, k10.offset, k11.type, k11.offset, k12.type, k12.offset) = (ts, 0, te, 1, tu, 4, ts, 5, tD, 6, tl, 7, tl, 8, tD, 9, tl, 10, tl, 11, tl, 12, tl, 13, tS, 14))
    (hD0 : P.underlying tD = some (.slice td)) (hS0 : P.underlying tS = some (.slice ts)) (hC3 : (P.cellsOf t == 15 && P.cellsOf tD == 1 && P.cellsOf tS == 1) = true)
    (hr : P.underlying tr = some (.struct #[r0, r1, r2])) (hR : (r0.type, r0.offset, r1.type, r1.offset, r2.type, r2.offset) = (tu, 0, td, 1, tl, 6)) (hl0 : P.underlying tl = some (.slice tr))
    (hd : P.underlying td = some (.struct #[g0, g1, g2])) (hG : (g0.type, g0.offset, g1.type, g1.offset, g2.type, g2.offset) = (ts, 0, tu, 1, te, 2))
    (hs : P.underlying te = some (.struct #[f0, f1, f2])) (hF : (f0.type, f0.offset, f1.type, f1.offset, f2.type, f2.offset) = (ti, 0, ts, 1, ts, 2))
    (hi : P.underlying ti = some (.int .i64)) (hst : P.underlying ts = some .string) (hu : P.underlying tu = some (.int .u8)) (hC : (P.cellsOf ti == 1 && P.cellsOf ts == 1 && P.cellsOf te == 3 && P.cellsOf tu == 1 && P.cellsOf td == 5) = true) (hC2 : (P.cellsOf tr == 7 && P.cellsOf tl == 1) = true)
    (hval : Value.okWide P W r b0 t v) (h : DataW.Trod enc P W 0 sp held t v d p) : ∃ q : Pk, v = q.val ∧ q.Laid W.heap.size W := by
  have hC0 := hC
  have hC20 := hC2
  simp only [Bool.and_eq_true, beq_iff_eq] at hC hC2 hC3
  obtain ⟨⟨⟨⟨c1, c2⟩, c3⟩, c4⟩, c5⟩ := hC
  obtain ⟨c6, c7⟩ := hC2
  obtain ⟨⟨c8, c9⟩, c10⟩ := hC3
  obtain ⟨cs, rfl, hsz⟩ := okWide_struct hp hval
  obtain ⟨fuel, hf⟩ := h
  obtain ⟨xs, m, hm, hx, hl, hlen, hg⟩ := DataW.trod_struct hp hf
  have RD := fun cs x (h : DataW.trod enc P W 0 sp held m tD cs = some x) => trod_row (encT := encD) (Q := Dp.wf) hD0 c5 (by decide) (fun m' cs' x' _ h' => trod_dep hd hG hs hF hi hst hu hC0 h') h
  have RR := fun cs x (h : DataW.trod enc P W 0 sp held m tl cs = some x) => trod_row (encT := encR) (Q := RTree W.heap.size W) hl0 c6 (by decide) (fun m' cs' x' _ h' => trod_rich hr hR hl0 hd hG hs hF hi hst hu hC0 hC20 m' cs' x' h') h
  have RS := fun cs x (h : DataW.trod enc P W 0 sp held m tS cs = some x) => trod_row (encT := fun s : ByteArray => [Value.string s]) (Q := fun s : ByteArray => s.size ≤ maxLen) hS0 c2 (by decide) (fun m' cs' x' _ h' => by obtain ⟨s, e, _, w0⟩ := DataW.trod_string hst h'; exact ⟨s, e, w0⟩) h
  have q0 := hg 0 k0 rfl
  have q1 := hg 1 k1 rfl
  have q2 := hg 2 k2 rfl
  have q3 := hg 3 k3 rfl
  have q4 := hg 4 k4 rfl
  have q5 := hg 5 k5 rfl
  have q6 := hg 6 k6 rfl
  have q7 := hg 7 k7 rfl
  have q8 := hg 8 k8 rfl
  have q9 := hg 9 k9 rfl
  have q10 := hg 10 k10 rfl
  have q11 := hg 11 k11 rfl
  have q12 := hg 12 k12 rfl
  simp only [Prod.mk.injEq] at hK
  obtain ⟨l⟩ := cs
  match xs, hlen with
  | [y0, y1, y2, y3, y4, y5, y6, y7, y8, y9, y10, y11, y12], _ =>
    rw [c8] at hl
    match l, (show l.length = 15 by simpa [Value.cells] using hl) with
    | [v0, v1, v2, v3, v4, v5, v6, v7, v8, v9, v10, v11, v12, v13, v14], _ =>
      simp only [hK, Value.cells, c2, c4, c3, c7, c9, c10, List.drop_zero, List.drop_succ_cons, List.take_succ_cons, List.take_zero] at q0 q1 q2 q3 q4 q5 q6 q7 q8 q9 q10 q11 q12
      obtain ⟨s0, e0, _, w0⟩ := DataW.trod_string hst (show DataW.trod enc P W 0 sp held m ts [v0] = some y0 from q0)
      obtain ⟨e, e1, w1⟩ := trod_evr hs hF hi hst (by simp [c1, c2, c3]) (show DataW.trod enc P W 0 sp held m te [v1, v2, v3] = some y1 from q1)
      obtain ⟨ar, e2, _, w2⟩ := DataW.trod_int hu (show DataW.trod enc P W 0 sp held m tu [v4] = some y2 from q2)
      obtain ⟨s3, e3, _, w3⟩ := DataW.trod_string hst (show DataW.trod enc P W 0 sp held m ts [v5] = some y3 from q3)
      obtain ⟨A0, p0, l0, x0, rd0, qq0⟩ := RD _ _ (show DataW.trod enc P W 0 sp held m tD [v6] = some y4 from q4)
      obtain ⟨A1, p1, l1, x1, rd1, qq1⟩ := RR _ _ (show DataW.trod enc P W 0 sp held m tl [v7] = some y5 from q5)
      obtain ⟨A2, p2, l2, x2, rd2, qq2⟩ := RR _ _ (show DataW.trod enc P W 0 sp held m tl [v8] = some y6 from q6)
      obtain ⟨A3, p3, l3, x3, rd3, qq3⟩ := RD _ _ (show DataW.trod enc P W 0 sp held m tD [v9] = some y7 from q7)
      obtain ⟨A4, p4, l4, x4, rd4, qq4⟩ := RR _ _ (show DataW.trod enc P W 0 sp held m tl [v10] = some y8 from q8)
      obtain ⟨A5, p5, l5, x5, rd5, qq5⟩ := RR _ _ (show DataW.trod enc P W 0 sp held m tl [v11] = some y9 from q9)
      obtain ⟨A6, p6, l6, x6, rd6, qq6⟩ := RR _ _ (show DataW.trod enc P W 0 sp held m tl [v12] = some y10 from q10)
      obtain ⟨A7, p7, l7, x7, rd7, qq7⟩ := RR _ _ (show DataW.trod enc P W 0 sp held m tl [v13] = some y11 from q11)
      obtain ⟨A8, p8, l8, x8, rd8, qq8⟩ := RS _ _ (show DataW.trod enc P W 0 sp held m tS [v14] = some y12 from q12)
      cases e0; cases e1; cases e2; cases e3
      cases x0; cases x1; cases x2; cases x3; cases x4; cases x5; cases x6; cases x7; cases x8
      obtain ⟨i0, i1, i2⟩ := w1
      exact ⟨{ name := s0, epoch := e.epoch, ver := bs e.ver, rel := bs e.rel, arch := ar, vendor := s3, provA := A0, provC := p0, prov := l0, reqA := A1, reqC := p1, req := l1, conA := A2, conC := p2, con := l2, obsA := A3, obsC := p3, obs := l3, rcmA := A4, rcmC := p4, rcm := l4, supA := A5, supC := p5, sup := l5, sugA := A6, sugC := p6, sug := l6, enhA := A7, enhC := p7, enh := l7, filesA := A8, filesC := p8, files := l8 }, rfl,
        { ar := w2, ep := i0, n0 := w0, n1 := by rw [bs_size]; exact i1, n2 := by rw [bs_size]; exact i2, n3 := w3, prov := rd0, provW := qq0, obs := rd3, obsW := qq3, files := rd8, filesW := qq8, req := ⟨rd1, qq1⟩, con := ⟨rd2, qq2⟩, rcm := ⟨rd4, qq4⟩, sup := ⟨rd5, qq5⟩, sug := ⟨rd6, qq6⟩, enh := ⟨rd7, qq7⟩ }⟩
end
end Go.Proofs.YteobmfpbgnmffaaGreatDoor
