/- RegInv4 -/
import Derived.Test.YteobmfpbgnmffaaGreatDoorStepsNamesRowG26
set_option linter.unusedSimpArgs false
set_option linter.unusedVariables false
/- A region that draws its order, one of whose operations appends onto a row of the call's own, and whose last ones come in their row. -/

namespace Go.Proofs.YteobmfpbgnmffaaGreatDoor
open Go.RowKit Go.Shelf

section
variable {P : Program} {ops : Array Oper} {Q : Exit → Act → World → Prop} {md : Region.Mode}
/-- **As 'wp_region_tail'; and one operation, the s-th, turns what is there in a way of its own (an append onto a row of the call's).** -/
theorem wp_region_once {PP : Nat → Value → World → Prop} {RelS : World → World → Prop} {id : Nat} {a : Act} {w : World} (n s : Nat) (hm : P.follows .mixedOrders = true) (hb : backEdges .any ops = true) (ht : tailEdges n ops = true) (hn : ((ops.toList.take n).map (·.dst)).Nodup) (hsz : n ≤ ops.size) (hsn : s < n)
    (hmono : ∀ i v w' w'', (Below w.heap.size w w' ∨ RelS w w') → PP i v w' → Below w'.heap.size w' w'' → PP i v w'') (hmonoS : ∀ i v w' w'', i ≠ s → Below w.heap.size w w' → PP i v w' → RelS w' w'' → PP i v w'')
    (hS2 : ∀ b c, RelS w b → Below b.heap.size b c → RelS w c) (hS3 : ∀ b c, Below w.heap.size w b → RelS b c → RelS w c) (vs0 : Nat → Value) (h0 : fillV (ops.toList.take n) 0 vs0 a = a)
    (hstep : ∀ (i : Nat) (o : Oper) (vs : Nat → Value) (w' : World), i < n → i ≠ s → ops[i]? = some o → (∀ e ∈ o.after, Region.binds .any e = true → PP e.on (vs e.on) w') → (Below w.heap.size w w' ∨ RelS w w') → (((ops[s]?).map fun o' => o'.after.any fun e => Region.binds .any e && e.on == i).getD false = true → Below w.heap.size w w') →
      ∀ K : Act → World → Prop, (∀ v w'', PP i v w'' → Below w'.heap.size w' w'' → K ((fillV (ops.toList.take n) 0 vs a).put o.dst v) w'') → if Region.wanted o (yielded ops (fillV (ops.toList.take n) 0 vs a).tmps) = true then Oper.wp P o (fillV (ops.toList.take n) 0 vs a) w' K Q else K ((fillV (ops.toList.take n) 0 vs a).put o.dst undef) w')
    (hstepS : ∀ (o : Oper) (vs : Nat → Value) (w' : World), ops[s]? = some o → (∀ e ∈ o.after, Region.binds .any e = true → PP e.on (vs e.on) w') → Below w.heap.size w w' →
      ∀ K : Act → World → Prop, (∀ v w'', PP s v w'' → RelS w' w'' → K ((fillV (ops.toList.take n) 0 vs a).put o.dst v) w'') → if Region.wanted o (yielded ops (fillV (ops.toList.take n) 0 vs a).tmps) = true then Oper.wp P o (fillV (ops.toList.take n) 0 vs a) w' K Q else K ((fillV (ops.toList.take n) 0 vs a).put o.dst undef) w')
    (hrest : ∀ vs w', (∀ i, i < n → PP i (vs i) w') → RelS w w' → wpList P ops Q (ops.toList.drop n) (fillV (ops.toList.take n) 0 vs a) w') : (Code.region id ops true).wp P Q a w := by
  let Clo : Array Bool → Prop := fun listed => ∀ j o, ops[j]? = some o → listed.getD j false = true → ∀ e ∈ o.after, Region.binds .any e = true → listed.getD e.on false = true
  refine wp_region_any hm (wpAny_inv3 (J := fun listed a' w' => Clo listed ∧ ((∃ vs, a' = fillV (ops.toList.take n) 0 vs a ∧ ((listed.getD s false = false ∧ Below w.heap.size w w') ∨ (listed.getD s false = true ∧ RelS w w')) ∧ (∀ i, i < n → listed.getD i false = true → PP i (vs i) w') ∧ ∀ i, n ≤ i → listed.getD i false = false) ∨ (∃ m, n < m ∧ (∀ i, i < ops.size → listed.getD i false = decide (i < m)) ∧ m ≤ ops.size ∧ wpList P ops Q (ops.toList.drop m) a' w'))) hb ?_ ?_ _ _ _ _ (by simp) (by unfold unlisted; exact Nat.le_trans (List.length_filter_le _ _) (by simp)) ?_)
  · rintro i o listed a' w' hi ho hs hun he ⟨hc, hJ⟩ K hK
    have hunl : listed.getD i false = false := by
      have h3 : i < listed.size := by omega
      simp only [Array.getD, h3, dite_true] at hun ⊢
      exact hun
    have hclo : Clo (listed.setIfInBounds i true) := by
      intro j o' ho' hj e hem hbd
      rw [getD_set] at hj ⊢
      by_cases hji : i = j
      · subst hji
        rw [ho] at ho'
        cases ho'
        rw [he e hem hbd]; rfl
      · have hj2 : listed.getD j false = true := by simpa [hji] using hj
        rw [hc j o' ho' hj2 e hem hbd]; rfl
    have nxt : ∀ m, m = i → n ≤ m → (∀ j, j < ops.size → listed.getD j false = decide (j < m)) → wpList P ops Q (ops.toList.drop m) a' w' → if Region.wanted o (yielded ops a'.tmps) = true then Oper.wp P o a' w' K Q ∨ (o.asks P a' w' ∧ LetsOut Q) else K (a'.put o.dst undef) w' := by
      rintro m rfl hnm hl hw
      have hd : ops.toList.drop m = o :: ops.toList.drop (m + 1) := by
        have h1 : m < ops.toList.length := by simpa using hi
        rw [List.drop_eq_getElem_cons h1]
        congr 1
        have : ops[m] = o := by rw [Array.getElem?_eq_getElem hi] at ho; exact Option.some.inj ho
        simpa using this
      rw [hd] at hw
      have go : ∀ a2 w2, wpList P ops Q (ops.toList.drop (m + 1)) a2 w2 → K a2 w2 := fun a2 w2 h2 => hK a2 w2 ⟨hclo, .inr ⟨m + 1, by omega, fun j hj => by
        rw [getD_set, hl j hj]
        by_cases h1 : j < m
        · simp [h1]; omega
        · by_cases h2 : j = m
          · subst h2; simp; omega
          · have h3 : ¬ m = j := fun e => h2 e.symm
            simp [h1, h3]; omega, by omega, h2⟩⟩
      unfold wpList at hw
      split
      · rename_i hwt
        rw [if_pos hwt] at hw
        rcases hw with h1 | h1
        · exact .inl (Oper.wp_mono go h1)
        · exact .inr h1
      · rename_i hwt
        rw [if_neg hwt] at hw
        exact go _ _ hw
    by_cases hin : i < n
    · rcases hJ with ⟨vs, rfl, hB, hP, hF⟩ | ⟨m, hm1, hl, _⟩
      · have fill : ∀ v, (fillV (ops.toList.take n) 0 vs a).put o.dst v = fillV (ops.toList.take n) 0 (upd vs i v) a := fun v => by
          have := fillV_put (ops.toList.take n) 0 vs a i o v (by rw [List.getElem?_take]; simp [hin]; simpa using ho) hn
          rw [this]; simp
        have low : ∀ j, n ≤ j → (listed.setIfInBounds i true).getD j false = false := fun j hj => by
          rw [getD_set, hF j hj]
          have : ¬ i = j := by omega
          simp [this]
        have was : ∀ j, j ≠ i → (listed.setIfInBounds i true).getD j false = listed.getD j false := fun j hj => by
          rw [getD_set]
          have : ¬ i = j := fun e => hj e.symm
          simp [this]
        have now : (listed.setIfInBounds i true).getD i false = true := by
          rw [getD_set]
          have : i < listed.size := by omega
          simp [this]
        have hed : ∀ e ∈ o.after, Region.binds .any e = true → PP e.on (vs e.on) w' := fun e hem hbd => hP _ (by have := back_lt hb hi ho hem hbd; omega) (he e hem hbd)
        by_cases his : i = s
        · subst his
          have hB' : Below w.heap.size w w' := by
            rcases hB with ⟨_, h1⟩ | ⟨h1, _⟩
            · exact h1
            · rw [hunl] at h1; cases h1
          have hst := hstepS o vs w' ho hed hB' K (fun v w'' hv hb' => hK _ _ ⟨hclo, .inl ⟨upd vs i v, fill v, .inr ⟨now, hS3 _ _ hB' hb'⟩, fun j hj hjl => by
            by_cases hji : j = i
            · subst hji; simp [upd]; exact hv
            · simp only [upd, hji, if_false]
              exact hmonoS _ _ _ _ hji hB' (hP j hj (by rw [was j hji] at hjl; exact hjl)) hb', low⟩⟩)
          split
          · rename_i hwt; rw [if_pos hwt] at hst; exact .inl hst
          · rename_i hwt; rw [if_neg hwt] at hst; exact hst
        · have hst := hstep i o vs w' hin his ho hed (hB.elim (fun h => .inl h.2) (fun h => .inr h.2)) (fun hd => by
            rcases hB with ⟨_, h2⟩ | ⟨h1, _⟩
            · exact h2
            · exfalso
              cases hso : ops[s]? with
              | none => rw [hso] at hd; simp at hd
              | some o2 =>
                rw [hso, Option.map_some, Option.getD_some] at hd
                obtain ⟨x, hx, h3⟩ := Array.any_eq_true.1 hd
                simp only [Bool.and_eq_true, beq_iff_eq] at h3
                have h4 := hc _ o2 hso h1 _ (Array.getElem_mem hx) h3.1
                rw [h3.2, hunl] at h4
                cases h4) K (fun v w'' hv hb' => hK _ _ ⟨hclo, .inl ⟨upd vs i v, fill v, by
            rw [was s (fun e => his e.symm)]
            rcases hB with ⟨h1, h2⟩ | ⟨h1, h2⟩
            · exact .inl ⟨h1, h2.trans (hb'.mono h2.size)⟩
            · exact .inr ⟨h1, hS2 _ _ h2 hb'⟩, fun j hj hjl => by
            by_cases hji : j = i
            · subst hji; simp [upd]; exact hv
            · simp only [upd, hji, if_false]
              exact hmono _ _ _ _ (hB.elim (fun h => .inl h.2) (fun h => .inr h.2)) (hP j hj (by rw [was j hji] at hjl; exact hjl)) hb', low⟩⟩)
          split
          · rename_i hwt; rw [if_pos hwt] at hst; exact .inl hst
          · rename_i hwt; rw [if_neg hwt] at hst; exact hst
      · rw [hl i hi] at hunl
        have := of_decide_eq_false hunl
        omega
    · have hall : ∀ j, j < i → listed.getD j false = true := by
        intro j hj
        unfold tailEdges at ht
        have h1 := List.all_eq_true.1 ht i (List.mem_range.2 hi)
        rw [decide_eq_false hin, Bool.false_or] at h1
        have h2 := List.all_eq_true.1 h1 j (List.mem_range.2 hj)
        exact waits_listed hc _ i j o ho he h2
      rcases hJ with ⟨vs, rfl, hB, hP, hF⟩ | ⟨m, hm1, hl, hm2, hw⟩
      · have hin2 : n = i := by
          refine Classical.byContradiction fun hne => ?_
          have := hall n (by omega)
          rw [hF n (Nat.le_refl _)] at this
          cases this
        refine nxt n hin2 (Nat.le_refl _) (fun j hj => ?_) (hrest vs w' (fun j hj => hP j hj (hall j (by omega))) (by
          rcases hB with ⟨h1, _⟩ | ⟨_, h2⟩
          · rw [hall s (by omega)] at h1; cases h1
          · exact h2))
        by_cases h1 : j < n
        · rw [decide_eq_true h1]; exact hall j (by omega)
        · rw [decide_eq_false h1]; exact hF j (by omega)
      · have him : m = i := by
          rw [hl i hi] at hunl
          have h1 := of_decide_eq_false hunl
          refine Classical.byContradiction fun hne => ?_
          have h2 := hall m (by omega)
          rw [hl m (by omega)] at h2
          have := of_decide_eq_true h2
          omega
        exact nxt m him (by omega) hl hw
  · rintro a' w' ⟨_, hJ⟩
    have hrep : ∀ i, i < ops.size → (Array.replicate ops.size true).getD i false = true := fun i hi => by simp [Array.getD, hi]
    rcases hJ with ⟨vs, rfl, hB, hP, hF⟩ | ⟨m, hm1, hl, hm2, hw⟩
    · have hge : n = ops.size := by
        refine Classical.byContradiction fun hne => ?_
        have h1 := hF n (Nat.le_refl _)
        rw [hrep n (by omega)] at h1
        cases h1
      have := hrest vs w' (fun j hj => hP j hj (hrep j (by omega))) (by
        rcases hB with ⟨h1, _⟩ | ⟨_, h2⟩
        · rw [hrep s (by omega)] at h1; cases h1
        · exact h2)
      rw [List.drop_eq_nil_of_le (by simp [hge])] at this
      exact this
    · have hge : m = ops.size := by
        refine Classical.byContradiction fun hne => ?_
        have h1 := hl m (by omega)
        rw [hrep m (by omega)] at h1
        have := of_decide_eq_true h1.symm
        omega
      rw [List.drop_eq_nil_of_le (by simp [hge])] at hw
      exact hw
  · refine ⟨fun j o ho hj => ?_, .inl ⟨vs0, h0.symm, .inl ⟨by
      by_cases h : s < ops.size
      · simp [Array.getD, h]
      · simp [Array.getD, h], (Below.refl _ _).drew⟩, fun i hi hj => ?_, fun i hi => ?_⟩⟩
    · exfalso
      by_cases h : j < ops.size
      · simp [Array.getD, h] at hj
      · simp [Array.getD, h] at hj
    · exfalso
      by_cases h : i < ops.size
      · simp [Array.getD, h] at hj
      · simp [Array.getD, h] at hj
    · by_cases h : i < ops.size
      · simp [Array.getD, h]
      · simp [Array.getD, h]
end
end Go.Proofs.YteobmfpbgnmffaaGreatDoor
