/- RegPartIn -/
import Derived.Test.YteobmfpbgnmffaaGreatDoorPkgCopiesRowG30
import Derived.OrdersIn
set_option linter.unusedSimpArgs false
set_option linter.unusedVariables false
/- Within a fence: a region that draws its order, of whose operations the first ones are all done ahead of the last ones: the first ones each by a property of its value; the last ones are left as they are, to be walked in each order. -/

namespace Go.Proofs.YteobmfpbgnmffaaGreatDoor
open Go.RowKit Go.Shelf

section
variable {F : Fence} {nF : Nat} {P : Program} {ops : Array Oper} {Q : Exit → Act → World → Prop}
/-- each operation from the n-th on waits for the first n -/
def restEdges (n : Nat) (ops : Array Oper) : Bool := (List.range ops.size).all fun i => decide (i < n) || (List.range n).all fun j => waits ops ops.size i j
def firstN (n k : Nat) : Array Bool := ((List.range k).map fun i => decide (i < n)).toArray
theorem firstN_of {listed : Array Bool} {n k : Nat} (hs : listed.size = k) (h1 : ∀ i, i < n → i < k → listed.getD i false = true) (h2 : ∀ i, n ≤ i → listed.getD i false = false) : listed = firstN n k := by
  refine Array.ext (by simp [firstN, hs]) fun i hi hj => ?_
  have hk : i < k := by omega
  have e : listed.getD i false = listed[i] := by simp [Array.getD, hi]
  rw [← e]
  simp only [firstN, List.getElem_toArray, List.getElem_map, List.getElem_range]
  by_cases h : i < n
  · rw [decide_eq_true h]; exact h1 i h hk
  · rw [decide_eq_false h]; exact h2 i (by omega)
theorem unlisted_firstN (n : Nat) : ∀ k, n ≤ k → unlisted (firstN n k) = k - n := by
  intro k hk
  unfold unlisted firstN
  have : ∀ k : Nat, (((List.range k).map fun i => decide (i < n)).filter (· == false)).length = k - n := by
    intro k
    induction k with
    | zero => simp
    | succ k ih =>
      rw [List.range_succ, List.map_append, List.filter_append, List.length_append, ih]
      by_cases h : k < n
      · simp [h]; omega
      · simp [h]; omega
  simpa using this k
theorem wpAnyIn_part {PP : Nat → Value → World → Prop} {a : Act} {w : World} (n : Nat) (hb : backEdges .any ops = true) (ht : restEdges n ops = true) (hn : ((ops.toList.take n).map (·.dst)).Nodup) (hsz : n < ops.size)
    (hmono : ∀ i v w w', PP i v w → Below w.heap.size w w' → PP i v w')
    (hstep : ∀ (i : Nat) (o : Oper) (vs : Nat → Value) (w' : World), i < n → ops[i]? = some o → (∀ e ∈ o.after, Region.binds .any e = true → PP e.on (vs e.on) w') → Below w.heap.size w w' →
      ∀ K : Act → World → Prop, (∀ v w'', PP i v w'' → Below w'.heap.size w' w'' → K ((fillV (ops.toList.take n) 0 vs a).put o.dst v) w'') → if Region.wanted o (yielded ops (fillV (ops.toList.take n) 0 vs a).tmps) = true then Oper.wpIn F nF P o (fillV (ops.toList.take n) 0 vs a) w' K Q else (∀ f, o.about P w' (fillV (ops.toList.take n) 0 vs a).eval = some f → F.fn f) ∧ K ((fillV (ops.toList.take n) 0 vs a).put o.dst undef) w')
    (hrest : ∀ vs w', (∀ i, i < n → PP i (vs i) w') → Below w.heap.size w w' → wpAnyIn F nF P .any ops Q (ops.size - n) (firstN n ops.size) (fillV (ops.toList.take n) 0 vs a) w') :
    ∀ (fuel : Nat) (listed : Array Bool) (vs : Nat → Value) (w' : World), listed.size = ops.size → unlisted listed = fuel → (∀ j o, ops[j]? = some o → listed.getD j false = true → ∀ e ∈ o.after, Region.binds .any e = true → listed.getD e.on false = true) → Below w.heap.size w w' → (∀ i, i < n → listed.getD i false = true → PP i (vs i) w') → (∀ i, n ≤ i → listed.getD i false = false) →
      wpAnyIn F nF P .any ops Q fuel listed (fillV (ops.toList.take n) 0 vs a) w' := by
  intro fuel
  induction fuel with
  | zero =>
    intro listed vs w' hs hf hc hB hP hF
    exfalso
    have h1 := unlisted_zero hf (listed[n]'(by omega)) (by simp)
    have h2 := hF n (Nat.le_refl _)
    have h3 : n < listed.size := by omega
    simp only [Array.getD, h3, dite_true] at h2
    rw [show listed.getInternal n h3 = listed[n] from rfl, h1] at h2
    cases h2
  | succ fuel ih =>
    intro listed vs w' hs hf hc hB hP hF
    by_cases hall : ∀ i, i < n → listed.getD i false = true
    · have e := firstN_of hs (fun i hi _ => hall i hi) hF
      subst e
      rw [unlisted_firstN n _ (by omega)] at hf
      rw [← hf]
      exact hrest vs w' (fun i hi => hP i hi (hall i hi)) hB
    · refine ⟨fun hr => ?_, fun i hi => ?_⟩
      · exfalso
        refine hall fun i hi => ?_
        have := ready_nil hb hs hr i (by omega)
        have h3 : i < listed.size := by omega
        simp only [Array.getD, h3, dite_true] at this ⊢
        exact this
      · obtain ⟨h1, h2, o, ho, he⟩ := ready_mem hi
        have hunl : listed.getD i false = false := by
          have h3 : i < listed.size := by omega
          simp only [Array.getD, h3, dite_true] at h2 ⊢
          exact h2
        have hin : i < n := by
          refine Classical.byContradiction fun hni => hall fun j hj => ?_
          unfold restEdges at ht
          have q1 := List.all_eq_true.1 ht i (List.mem_range.2 h1)
          rw [decide_eq_false hni, Bool.false_or] at q1
          have q2 := List.all_eq_true.1 q1 j (List.mem_range.2 hj)
          exact waits_listed hc _ i j o ho he q2
        have hclo : ∀ j o', ops[j]? = some o' → (listed.setIfInBounds i true).getD j false = true → ∀ e ∈ o'.after, Region.binds .any e = true → (listed.setIfInBounds i true).getD e.on false = true := by
          intro j o' ho' hj e hem hbd
          rw [getD_set] at hj ⊢
          by_cases hji : i = j
          · subst hji
            rw [ho] at ho'
            cases ho'
            rw [he e hem hbd]; rfl
          · have hj2 : listed.getD j false = true := by simpa [hji] using hj
            rw [hc j o' ho' hj2 e hem hbd]; rfl
        have hul : unlisted (listed.setIfInBounds i true) = fuel := by
          have h3 : i < listed.size := by omega
          have h4 : listed.toList[i]? = some false := by
            simp only [Array.getD, h3, dite_true] at h2
            rw [List.getElem?_eq_getElem (by simpa using h3)]
            simpa using h2
          have h5 := unlisted_set _ _ h4
          unfold unlisted at hf ⊢
          rw [Array.toList_setIfInBounds]
          omega
        have hst := hstep i o vs w' hin ho (fun e hem hbd => hP _ (by have := back_lt hb h1 ho hem hbd; omega) (he e hem hbd)) hB (wpAnyIn F nF P .any ops Q fuel (listed.setIfInBounds i true)) (fun v w'' hv hb' => by
          have fill : (fillV (ops.toList.take n) 0 vs a).put o.dst v = fillV (ops.toList.take n) 0 (upd vs i v) a := by
            have := fillV_put (ops.toList.take n) 0 vs a i o v (by rw [List.getElem?_take]; simp [hin]; simpa using ho) hn
            rw [this]; simp
          rw [fill]
          refine ih _ _ _ (by simpa using hs) hul hclo (hB.trans (hb'.mono hB.size)) (fun j hj hjl => ?_) (fun j hj => ?_)
          · by_cases hji : j = i
            · subst hji; simp [upd]; exact hv
            · have hji2 : ¬ i = j := fun e => hji e.symm
              simp only [upd, hji, if_false]
              rw [getD_set] at hjl
              exact hmono _ _ _ _ (hP j hj (by simpa [hji2] using hjl)) hb'
          · rw [getD_set, hF j hj]
            have : ¬ i = j := by omega
            simp [this])
        unfold wpOpIn
        simp only [ho]
        exact hst
theorem wpIn_region_part {PP : Nat → Value → World → Prop} {id : Nat} {a : Act} {w : World} (n : Nat) (hm : P.follows .mixedOrders = true) (hb : backEdges .any ops = true) (ht : restEdges n ops = true) (hn : ((ops.toList.take n).map (·.dst)).Nodup) (hsz : n < ops.size)
    (hmono : ∀ i v w w', PP i v w → Below w.heap.size w w' → PP i v w') (vs0 : Nat → Value) (h0 : fillV (ops.toList.take n) 0 vs0 a = a)
    (hstep : ∀ (i : Nat) (o : Oper) (vs : Nat → Value) (w' : World), i < n → ops[i]? = some o → (∀ e ∈ o.after, Region.binds .any e = true → PP e.on (vs e.on) w') → Below w.heap.size w w' →
      ∀ K : Act → World → Prop, (∀ v w'', PP i v w'' → Below w'.heap.size w' w'' → K ((fillV (ops.toList.take n) 0 vs a).put o.dst v) w'') → if Region.wanted o (yielded ops (fillV (ops.toList.take n) 0 vs a).tmps) = true then Oper.wpIn F nF P o (fillV (ops.toList.take n) 0 vs a) w' K Q else (∀ f, o.about P w' (fillV (ops.toList.take n) 0 vs a).eval = some f → F.fn f) ∧ K ((fillV (ops.toList.take n) 0 vs a).put o.dst undef) w')
    (hrest : ∀ vs w', (∀ i, i < n → PP i (vs i) w') → Below w.heap.size w w' → wpAnyIn F nF P .any ops Q (ops.size - n) (firstN n ops.size) (fillV (ops.toList.take n) 0 vs a) w') : (Code.region id ops true).wpIn F nF P Q a w := by
  refine wpIn_region_any hm ?_
  have h := wpAnyIn_part n hb ht hn hsz hmono hstep hrest ops.size (Array.replicate ops.size false) vs0 w.drew (by simp) (by unfold unlisted; simp) (fun j o ho hj => by
    exfalso
    by_cases h : j < ops.size
    · simp [Array.getD, h] at hj
    · simp [Array.getD, h] at hj) (Below.refl _ _).drew (fun i hi hj => by
    exfalso
    by_cases h : i < ops.size
    · simp [Array.getD, h] at hj
    · simp [Array.getD, h] at hj) (fun i hi => by
    by_cases h : i < ops.size
    · simp [Array.getD, h]
    · simp [Array.getD, h])
  rw [h0] at h
  exact h
end
end Go.Proofs.YteobmfpbgnmffaaGreatDoor
