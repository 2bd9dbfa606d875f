/- RichArgs, RichArgsK -/
import Derived.Test.YtibeipmcggbbgaaGreatDoorStepsThereRowG05
import Derived.Test.YtibeipmcggbbgaaGreatDoorStepsThereRowG16
set_option linter.unusedSimpArgs false
set_option linter.unusedVariables false
namespace Go.Proofs.YtibeipmcggbbgaaGreatDoor
section
/- How the arguments of rich's statements are opened: rows, dependencies, rich dependencies. -/



open Go.ChangeShapes Go.WideShapes Go.ChangeAt Go.RowKit
set_option linter.unusedVariables false

theorem list_of {α : Type} {P : Nat → α → Prop} : ∀ n : Nat, (∀ i, i < n → ∃ t, P i t) → ∃ l : List α, l.length = n ∧ ∀ i (h : i < l.length), P i l[i]
 | 0, _ => ⟨[], rfl, fun i h => by simp at h⟩
 | n + 1, h => by
  obtain ⟨l, hl, hp⟩ := list_of n (fun i hi => h i (by omega))
  obtain ⟨t, ht⟩ := h n (by omega)
  refine ⟨l ++ [t], by simp [hl], fun i hi => ?_⟩
  rw [List.length_append] at hi
  simp at hi
  by_cases e : i < l.length
  ·rw [List.getElem_append_left e]; exact hp i e
  ·obtain rfl : i = l.length := by omega
   rw [List.getElem_append_right (Nat.le_refl _)]
   simpa [hl] using ht
section
variable {H : Type} {enc : TypeId × Value → H} {P : Program} {W : World} {held : Bool} {t e ti ts tu te td tr tl : TypeId} {f0 f1 f2 g0 g1 g2 r0 r1 r2 : Field} {sp : Nat → Bool}

/-- a row of elements of k cells each -/
theorem trod_row {α : Type} {encT : α → List Value} {Q : α → Prop} {k n : Nat} {cs : List Value} {x : DataW H × List MemPlace} (ht : P.underlying t = some (.slice e)) (hk : P.cellsOf e = k) (k0 : 0 < k)
  (hel : ∀ m cs x, m < n → DataW.trod enc P W 0 sp held m e cs = some x → ∃ y, cs = encT y ∧ Q y) (h : DataW.trod enc P W 0 sp held n t cs = some x) :
  ∃ A cap, ∃ l : List α, cs = [.slice A l.length cap] ∧ Rd encT k W.heap.size A cap l W ∧ ∀ y ∈ l, Q y := by
 rcases DataW.trod_slice ht h with ⟨hcs, _⟩ | ⟨a, len, cap, elems, rest, m, hnm, hcs, _, _, hl, hm, hlen, hel2, _⟩
 ·exact ⟨none, 0, [], hcs, Rd.nil_ (Nat.zero_le _), fun y hy => by cases hy⟩
 ·have each : ∀ i, i < len → ∃ y, (W.cells? 0 (a.add (i * k)) k = some (encT y)) ∧ Q y := fun i hi => by
   have h1 := hel2 i hi
   rw [List.getElem?_eq_getElem (by omega), hk] at h1
   obtain ⟨c, hc, hd⟩ := Option.bind_eq_some_iff.1 h1
   obtain ⟨y, rfl, hq⟩ := hel m c _ (by omega) hd
   exact ⟨y, hc, hq⟩
  obtain ⟨l, hll, hp⟩ := list_of len each
  refine ⟨some a, cap, l, by rw [hll]; exact hcs, ⟨by omega, hm, fun i hi => ?_⟩, fun y hy => by obtain ⟨i, hi, rfl⟩ := List.getElem_of_mem hy; exact (hp i hi).2⟩
  obtain ⟨hc, _⟩ := hp i hi
  obtain ⟨b, off, spot⟩ := a
  have hlt := World.cells?_block hc k0
  obtain ⟨_, hlen2, hcell⟩ := World.cells?_some hc
  have hsp : spot = none := by
   obtain ⟨hc0, _⟩ := hp 0 (by omega)
   obtain ⟨_, hlen0, hcell0⟩ := World.cells?_some hc0
   have h0 := hcell0 0 k0
   rw [List.getElem?_eq_getElem (show 0 < (encT l[0]).length by omega), Nat.zero_mul] at h0
   exact World.cell?_spot h0
  subst hsp
  refine ⟨b, off, rfl, ?_, fun j u hu => ?_⟩
  ·have : (Addr.add ⟨b, off, none⟩ (i * k)).block = b := by rw [Addr.add_lit]
   rw [← this]; exact hlt
  ·have hj : j < k := by have := (List.getElem?_eq_some_iff.1 hu).1; omega
   have h0 := hcell j hj
   rw [hu] at h0
   have hadd : ((⟨b, off, none⟩ : Addr).add (i * k)).add j = ⟨b, off + i * k + j, none⟩ := by rw [Addr.add_lit, Addr.add_lit]
   rw [hadd] at h0
   exact h0
theorem trod_dep {n : Nat} {cs : List Value} {x : DataW H × List MemPlace} (hd : P.underlying t = some (.struct #[g0, g1, g2])) (hG : (g0.type, g0.offset, g1.type, g1.offset, g2.type, g2.offset) = (ts, 0, tu, 1, te, 2))
  (hs : P.underlying te = some (.struct #[f0, f1, f2])) (hF : (f0.type, f0.offset, f1.type, f1.offset, f2.type, f2.offset) = (ti, 0, ts, 1, ts, 2))
  (hi : P.underlying ti = some (.int .i64)) (hst : P.underlying ts = some .string) (hu : P.underlying tu = some (.int .u8)) (hC : (P.cellsOf ti == 1 && P.cellsOf ts == 1 && P.cellsOf te == 3 && P.cellsOf tu == 1 && P.cellsOf t == 5) = true)
  (h : DataW.trod enc P W 0 sp held n t cs = some x) : ∃ d : Dp, cs = encD d ∧ d.wf := by
 simp only [Bool.and_eq_true, beq_iff_eq] at hC
 obtain ⟨⟨⟨⟨c1, c2⟩, c3⟩, c4⟩, c5⟩ := hC
 obtain ⟨xs, m, _, hx, hl, hlen, hg⟩ := DataW.trod_struct hd h
 have q0 := hg 0 g0 rfl
 have q1 := hg 1 g1 rfl
 have q2 := hg 2 g2 rfl
 simp only [Prod.mk.injEq] at hG
 match xs, hlen with
 | [y0, y1, y2], _ =>
  rw [c5] at hl
  match cs, hl with
  | [v0, v1, v2, v3, v4], _ =>
   simp only [hG, c2, c4, c3, List.drop_zero, List.drop_succ_cons, List.take_succ_cons, List.take_zero] at q0 q1 q2
   obtain ⟨s0, e0, _, w0⟩ := DataW.trod_string hst (show DataW.trod enc P W 0 sp held m ts [v0] = some y0 from q0)
   obtain ⟨k1, e1, _, w1⟩ := DataW.trod_int hu (show DataW.trod enc P W 0 sp held m tu [v1] = some y1 from q1)
   obtain ⟨e, he, hw⟩ := trod_evr hs hF hi hst (by simp [c1, c2, c3]) (show DataW.trod enc P W 0 sp held m te [v2, v3, v4] = some y2 from q2)
   cases e0; cases e1; cases he
   exact ⟨⟨s0.toList, k1, e⟩, by simp only [encD, bs_of], by rw [size_toList]; exact w0, w1, hw⟩
end
end
section
/- Rich dependencies as arguments: their kinds are bytes. -/



open Go.ChangeShapes Go.WideShapes Go.ChangeAt Go.RowKit
set_option linter.unusedVariables false

theorem byte_of {k : Int} (h : (Lit.int .u8 k).wf = true) : 0 ≤ k ∧ k ≤ 255 := by
 have h2 : IntKind.u8.min ≤ k ∧ k ≤ IntKind.u8.max := by simpa [Lit.wf] using h
 exact h2
section
variable {H : Type} {enc : TypeId × Value → H} {P : Program} {W : World} {held : Bool} {t e ti ts tu te td tr tl : TypeId} {f0 f1 f2 g0 g1 g2 r0 r1 r2 : Field} {sp : Nat → Bool}

/-- a rich dependency, as deep as it may be -/
theorem trod_richK (hr : P.underlying tr = some (.struct #[r0, r1, r2])) (hR : (r0.type, r0.offset, r1.type, r1.offset, r2.type, r2.offset) = (tu, 0, td, 1, tl, 6)) (hl0 : P.underlying tl = some (.slice tr))
  (hd : P.underlying td = some (.struct #[g0, g1, g2])) (hG : (g0.type, g0.offset, g1.type, g1.offset, g2.type, g2.offset) = (ts, 0, tu, 1, te, 2))
  (hs : P.underlying te = some (.struct #[f0, f1, f2])) (hF : (f0.type, f0.offset, f1.type, f1.offset, f2.type, f2.offset) = (ti, 0, ts, 1, ts, 2))
  (hi : P.underlying ti = some (.int .i64)) (hst : P.underlying ts = some .string) (hu : P.underlying tu = some (.int .u8)) (hC : (P.cellsOf ti == 1 && P.cellsOf ts == 1 && P.cellsOf te == 3 && P.cellsOf tu == 1 && P.cellsOf td == 5) = true) (hC2 : (P.cellsOf tr == 7 && P.cellsOf tl == 1) = true) :
  ∀ (n : Nat) (cs : List Value) (x : DataW H × List MemPlace), DataW.trod enc P W 0 sp held n tr cs = some x → ∃ y : RV, cs = encR y ∧ (RTree W.heap.size W y ∧ KO y) := by
 intro n
 induction n using Nat.strongRecOn with
 | _ n ih =>
  intro cs x h
  have hC0 := hC
  simp only [Bool.and_eq_true, beq_iff_eq] at hC hC2
  obtain ⟨⟨⟨⟨c1, c2⟩, c3⟩, c4⟩, c5⟩ := hC
  obtain ⟨c6, c7⟩ := hC2
  obtain ⟨xs, m, hm, hx, hl, hlen, hg⟩ := DataW.trod_struct hr h
  have q0 := hg 0 r0 rfl
  have q1 := hg 1 r1 rfl
  have q2 := hg 2 r2 rfl
  simp only [Prod.mk.injEq] at hR
  match xs, hlen with
  | [y0, y1, y2], _ =>
   rw [c6] at hl
   match cs, hl with
   | [v0, v1, v2, v3, v4, v5, v6], _ =>
    simp only [hR, c4, c5, c7, List.drop_zero, List.drop_succ_cons, List.take_succ_cons, List.take_zero] at q0 q1 q2
    obtain ⟨k0, e0, _, w0⟩ := DataW.trod_int hu (show DataW.trod enc P W 0 sp held m tu [v0] = some y0 from q0)
    obtain ⟨d, e1, w1⟩ := trod_dep hd hG hs hF hi hst hu hC0 (show DataW.trod enc P W 0 sp held m td [v1, v2, v3, v4, v5] = some y1 from q1)
    obtain ⟨A, cap, l, e2, hrd, hq⟩ := trod_row (encT := encR) (Q := fun y => RTree W.heap.size W y ∧ KO y) hl0 c6 (by decide) (fun m' cs' x' hm' h' => ih m' (by omega) cs' x' h') (show DataW.trod enc P W 0 sp held m tl [v6] = some y2 from q2)
    cases e0; cases e2
    simp only [encD, List.cons.injEq, and_true] at e1
    obtain ⟨rfl, rfl, rfl, rfl, rfl⟩ := e1
    exact ⟨.node k0 d A cap l, rfl, .mk w1 hrd (fun a ha => (hq a ha).1), .mk (byte_of w0) (fun a ha => (hq a ha).2)⟩
end
end
end Go.Proofs.YtibeipmcggbbgaaGreatDoor
