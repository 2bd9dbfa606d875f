/- RegInv3 -/
import Derived.Test.YtcpjignlhlcnpaaDoorPkgNamesRowG34
set_option linter.unusedSimpArgs false
set_option linter.unusedVariables false
/- A region that draws its order, of whose operations the last ones come in their row (an assignment to several places): the first ones each by a property of its value, the last ones walked. -/

namespace Go.Proofs.YtcpjignlhlcnpaaDoor
open Go.RowKit Go.Shelf

section
variable {P : Program} {ops : Array Oper} {Q : Exit → Act → World → Prop} {md : Region.Mode}
theorem wpAny_inv3 {J : Array Bool → Act → World → Prop} (hb : backEdges md ops = true)
    (hstep : ∀ (i : Nat) (o : Oper) (listed : Array Bool) (a : Act) (w : World), i < ops.size → ops[i]? = some o → listed.size = ops.size → listed.getD i true = false → (∀ e ∈ o.after, Region.binds md e = true → listed.getD e.on false = true) → J listed a w →
      ∀ K : Act → World → Prop, (∀ a' w', J (listed.setIfInBounds i true) a' w' → K a' w') → if Region.wanted o (yielded ops a.tmps) = true then Oper.wp P o a w K Q ∨ (o.asks P a w ∧ LetsOut Q) else K (a.put o.dst undef) w)
    (hdone : ∀ a w, J (Array.replicate ops.size true) a w → Q .normal a w) :
    ∀ (fuel : Nat) (listed : Array Bool) (a : Act) (w : World), listed.size = ops.size → unlisted listed ≤ fuel → J listed a w → wpAny P md ops Q fuel listed a w
  | 0, listed, a, w, hs, hf, hJ => by
    have hall : ∀ i, i < ops.size → listed.getD i true = true := fun i hi => by
      have h1 := unlisted_zero (Nat.le_zero.1 hf) (listed[i]'(by omega)) (by simp)
      have h2 : i < listed.size := by omega
      simp only [Array.getD, h2, dite_true]
      exact h1
    refine ⟨?_, hdone a w (by rw [← all_true hs hall]; exact hJ)⟩
    refine List.eq_nil_iff_forall_not_mem.2 fun i hi => ?_
    obtain ⟨h1, h2, _⟩ := ready_mem hi
    rw [hall i h1] at h2
    cases h2
  | fuel + 1, listed, a, w, hs, hf, hJ => by
    refine ⟨fun hr => hdone a w (by rw [← all_true hs (ready_nil hb hs hr)]; exact hJ), fun i hi => ?_⟩
    obtain ⟨h1, h2, o, ho, he⟩ := ready_mem hi
    have hst := hstep i o listed a w h1 ho hs h2 he hJ (wpAny P md ops Q fuel (listed.setIfInBounds i true)) (fun a' w' hj => wpAny_inv3 hb hstep hdone fuel _ a' w' (by simpa using hs) (by
      have h3 : i < listed.size := by omega
      have h4 : listed.toList[i]? = some false := by
        simp only [Array.getD, h3, dite_true] at h2
        rw [List.getElem?_eq_getElem (by simpa using h3)]
        simpa using h2
      have h5 := unlisted_set _ _ h4
      unfold unlisted at hf ⊢
      rw [Array.toList_setIfInBounds]
      omega) hj)
    unfold wpOp
    simp only [ho]
    exact hst
/-- does operation i wait for operation j, if only by way of others? -/
def waits (ops : Array Oper) : Nat → Nat → Nat → Bool
  | 0, _, _ => false
  | k + 1, i, j => ((ops[i]?).map fun o => o.after.any fun e => Region.binds .any e && (e.on == j || waits ops k e.on j)).getD false
theorem waits_listed {listed : Array Bool} (hc : ∀ j o, ops[j]? = some o → listed.getD j false = true → ∀ e ∈ o.after, Region.binds .any e = true → listed.getD e.on false = true) : ∀ (k i j : Nat) (o : Oper), ops[i]? = some o → (∀ e ∈ o.after, Region.binds .any e = true → listed.getD e.on false = true) → waits ops k i j = true → listed.getD j false = true
  | 0, _, _, _, _, _, h => by simp [waits] at h
  | k + 1, i, j, o, ho, he, h => by
    rw [waits, ho, Option.map_some, Option.getD_some] at h
    obtain ⟨x, hx, h3⟩ := Array.any_eq_true.1 h
    simp only [Bool.and_eq_true, Bool.or_eq_true, beq_iff_eq] at h3
    obtain ⟨hbd, h4⟩ := h3
    have hl := he _ (Array.getElem_mem hx) hbd
    rcases h4 with h4 | h4
    · rw [← h4]; exact hl
    · cases ho2 : ops[(o.after[x]).on]? with
      | none =>
        cases k with
        | zero => simp [waits] at h4
        | succ k => simp [waits, ho2] at h4
      | some o2 => exact waits_listed hc k _ j o2 ho2 (hc _ o2 ho2 hl) h4
/-- each operation from the n-th on waits for all ahead of it -/
def tailEdges (n : Nat) (ops : Array Oper) : Bool := (List.range ops.size).all fun i => decide (i < n) || (List.range i).all fun j => waits ops ops.size i j
theorem getD_set {l : Array Bool} {i k : Nat} : (l.setIfInBounds i true).getD k false = (l.getD k false || (decide (i = k) && decide (k < l.size))) := by
  rw [Array.getD_eq_getD_getElem?, Array.getD_eq_getD_getElem?, Array.getElem?_setIfInBounds]
  by_cases h : i = k
  · subst h
    by_cases h2 : i < l.size
    · simp [h2]
    · simp [h2]
  · simp [h]
theorem wp_region_tail {PP : Nat → Value → World → Prop} {id : Nat} {a : Act} {w : World} (n : Nat) (hm : P.follows .mixedOrders = true) (hb : backEdges .any ops = true) (ht : tailEdges n ops = true) (hn : ((ops.toList.take n).map (·.dst)).Nodup) (hsz : n ≤ ops.size)
    (hmono : ∀ i v w w', PP i v w → Below w.heap.size w w' → PP i v w') (vs0 : Nat → Value) (h0 : fillV (ops.toList.take n) 0 vs0 a = a)
    (hstep : ∀ (i : Nat) (o : Oper) (vs : Nat → Value) (w' : World), i < n → ops[i]? = some o → (∀ e ∈ o.after, Region.binds .any e = true → PP e.on (vs e.on) w') → Below w.heap.size w w' →
      ∀ K : Act → World → Prop, (∀ v w'', PP i v w'' → Below w'.heap.size w' w'' → K ((fillV (ops.toList.take n) 0 vs a).put o.dst v) w'') → if Region.wanted o (yielded ops (fillV (ops.toList.take n) 0 vs a).tmps) = true then Oper.wp P o (fillV (ops.toList.take n) 0 vs a) w' K Q else K ((fillV (ops.toList.take n) 0 vs a).put o.dst undef) w')
    (hrest : ∀ vs w', (∀ i, i < n → PP i (vs i) w') → Below w.heap.size w w' → wpList P ops Q (ops.toList.drop n) (fillV (ops.toList.take n) 0 vs a) w') : (Code.region id ops true).wp P Q a w := by
  let Clo : Array Bool → Prop := fun listed => ∀ j o, ops[j]? = some o → listed.getD j false = true → ∀ e ∈ o.after, Region.binds .any e = true → listed.getD e.on false = true
  refine wp_region_any hm (wpAny_inv3 (J := fun listed a' w' => Clo listed ∧ ((∃ vs, a' = fillV (ops.toList.take n) 0 vs a ∧ Below w.heap.size w w' ∧ (∀ i, i < n → listed.getD i false = true → PP i (vs i) w') ∧ ∀ i, n ≤ i → listed.getD i false = false) ∨ (∃ m, n < m ∧ (∀ i, i < ops.size → listed.getD i false = decide (i < m)) ∧ m ≤ ops.size ∧ wpList P ops Q (ops.toList.drop m) a' w'))) hb ?_ ?_ _ _ _ _ (by simp) (by unfold unlisted; exact Nat.le_trans (List.length_filter_le _ _) (by simp)) ?_)
  · rintro i o listed a' w' hi ho hs hun he ⟨hc, hJ⟩ K hK
    have hunl : listed.getD i false = false := by
      have h3 : i < listed.size := by omega
      simp only [Array.getD, h3, dite_true] at hun ⊢
      exact hun
    have hclo : Clo (listed.setIfInBounds i true) := by
      intro j o' ho' hj e hem hbd
      rw [getD_set] at hj ⊢
      by_cases hji : i = j
      · subst hji
        rw [ho] at ho'
        cases ho'
        rw [he e hem hbd]; rfl
      · have hj2 : listed.getD j false = true := by simpa [hji] using hj
        rw [hc j o' ho' hj2 e hem hbd]; rfl
    have nxt : ∀ m, m = i → n ≤ m → (∀ j, j < ops.size → listed.getD j false = decide (j < m)) → wpList P ops Q (ops.toList.drop m) a' w' → if Region.wanted o (yielded ops a'.tmps) = true then Oper.wp P o a' w' K Q ∨ (o.asks P a' w' ∧ LetsOut Q) else K (a'.put o.dst undef) w' := by
      rintro m rfl hnm hl hw
      have hd : ops.toList.drop m = o :: ops.toList.drop (m + 1) := by
        have h1 : m < ops.toList.length := by simpa using hi
        rw [List.drop_eq_getElem_cons h1]
        congr 1
        have : ops[m] = o := by rw [Array.getElem?_eq_getElem hi] at ho; exact Option.some.inj ho
        simpa using this
      rw [hd] at hw
      have go : ∀ a2 w2, wpList P ops Q (ops.toList.drop (m + 1)) a2 w2 → K a2 w2 := fun a2 w2 h2 => hK a2 w2 ⟨hclo, .inr ⟨m + 1, by omega, fun j hj => by
        rw [getD_set, hl j hj]
        by_cases h1 : j < m
        · simp [h1]; omega
        · by_cases h2 : j = m
          · subst h2; simp; omega
          · have h3 : ¬ m = j := fun e => h2 e.symm
            simp [h1, h3]; omega, by omega, h2⟩⟩
      unfold wpList at hw
      split
      · rename_i hwt
        rw [if_pos hwt] at hw
        rcases hw with h1 | h1
        · exact .inl (Oper.wp_mono go h1)
        · exact .inr h1
      · rename_i hwt
        rw [if_neg hwt] at hw
        exact go _ _ hw
    by_cases hin : i < n
    · rcases hJ with ⟨vs, rfl, hB, hP, hF⟩ | ⟨m, hm1, hl, _⟩
      · have hst := hstep i o vs w' hin ho (fun e hem hbd => hP _ (by have := back_lt hb hi ho hem hbd; omega) (he e hem hbd)) hB K (fun v w'' hv hb' => hK _ _ ⟨hclo, .inl ⟨upd vs i v, ?_, hB.trans (hb'.mono hB.size), fun j hj hjl => ?_, fun j hj => ?_⟩⟩)
        · split
          · rename_i hwt; rw [if_pos hwt] at hst; exact .inl hst
          · rename_i hwt; rw [if_neg hwt] at hst; exact hst
        · have := fillV_put (ops.toList.take n) 0 vs a i o v (by rw [List.getElem?_take]; simp [hin]; simpa using ho) hn
          rw [this]; simp
        · by_cases hji : j = i
          · subst hji; simp [upd]; exact hv
          · simp only [upd, hji, if_false]
            refine hmono _ _ _ _ (hP j hj ?_) hb'
            rw [getD_set] at hjl
            have : ¬ i = j := fun e => hji e.symm
            simpa [this] using hjl
        · rw [getD_set, hF j hj]
          have : ¬ i = j := by omega
          simp [this]
      · rw [hl i hi] at hunl
        have := of_decide_eq_false hunl
        omega
    · have hall : ∀ j, j < i → listed.getD j false = true := by
        intro j hj
        unfold tailEdges at ht
        have h1 := List.all_eq_true.1 ht i (List.mem_range.2 hi)
        rw [decide_eq_false hin, Bool.false_or] at h1
        have h2 := List.all_eq_true.1 h1 j (List.mem_range.2 hj)
        exact waits_listed hc _ i j o ho he h2
      rcases hJ with ⟨vs, rfl, hB, hP, hF⟩ | ⟨m, hm1, hl, hm2, hw⟩
      · have hin2 : n = i := by
          refine Classical.byContradiction fun hne => ?_
          have := hall n (by omega)
          rw [hF n (Nat.le_refl _)] at this
          cases this
        refine nxt n hin2 (Nat.le_refl _) (fun j hj => ?_) (hrest vs w' (fun j hj => hP j hj (hall j (by omega))) hB)
        by_cases h1 : j < n
        · rw [decide_eq_true h1]; exact hall j (by omega)
        · rw [decide_eq_false h1]; exact hF j (by omega)
      · have him : m = i := by
          rw [hl i hi] at hunl
          have h1 := of_decide_eq_false hunl
          refine Classical.byContradiction fun hne => ?_
          have h2 := hall m (by omega)
          rw [hl m (by omega)] at h2
          have := of_decide_eq_true h2
          omega
        exact nxt m him (by omega) hl hw
  · rintro a' w' ⟨_, hJ⟩
    have hrep : ∀ i, i < ops.size → (Array.replicate ops.size true).getD i false = true := fun i hi => by simp [Array.getD, hi]
    rcases hJ with ⟨vs, rfl, hB, hP, hF⟩ | ⟨m, hm1, hl, hm2, hw⟩
    · have hge : n = ops.size := by
        refine Classical.byContradiction fun hne => ?_
        have h1 := hF n (Nat.le_refl _)
        rw [hrep n (by omega)] at h1
        cases h1
      have := hrest vs w' (fun j hj => hP j hj (hrep j (by omega))) hB
      rw [List.drop_eq_nil_of_le (by simp [hge])] at this
      exact this
    · have hge : m = ops.size := by
        refine Classical.byContradiction fun hne => ?_
        have h1 := hl m (by omega)
        rw [hrep m (by omega)] at h1
        have := of_decide_eq_true h1.symm
        omega
      rw [List.drop_eq_nil_of_le (by simp [hge])] at hw
      exact hw
  · refine ⟨fun j o ho hj => ?_, .inl ⟨vs0, h0.symm, (Below.refl _ _).drew, fun i hi hj => ?_, fun i hi => ?_⟩⟩
    · exfalso
      by_cases h : j < ops.size
      · simp [Array.getD, h] at hj
      · simp [Array.getD, h] at hj
    · exfalso
      by_cases h : i < ops.size
      · simp [Array.getD, h] at hj
      · simp [Array.getD, h] at hj
    · by_cases h : i < ops.size
      · simp [Array.getD, h]
      · simp [Array.getD, h]
end
end Go.Proofs.YtcpjignlhlcnpaaDoor
