/- RegInv -/
import Derived.Test.YtcpjignlhlcnpaaDoorPkgNamesRowG08
import Derived.Orders
import Derived.OrdersHeld
import Derived.Deep.RegionHeld3
set_option linter.unusedSimpArgs false
set_option linter.unusedVariables false
/- A region that draws its order and makes memory in many orders: an invariant that each operation keeps, told by which operations have come up, serves every order; each operation is walked once. -/




namespace Go.Proofs.YtcpjignlhlcnpaaDoor
open Go.RowKit Go.Shelf

section
variable {P : Program} {ops : Array Oper} {Q : Exit → Act → World → Prop} {md : Region.Mode}
/-- every operation waits for earlier ones alone -/
def backEdges (md : Region.Mode) (ops : Array Oper) : Bool := (List.range ops.size).all fun i => ((ops[i]?).map fun o => o.after.all fun e => !Region.binds md e || decide (e.on < i)).getD false
def unlisted (l : Array Bool) : Nat := (l.toList.filter (· == false)).length
theorem unlisted_set : ∀ (l : List Bool) (i : Nat), l[i]? = some false → ((l.set i true).filter (· == false)).length + 1 = (l.filter (· == false)).length
  | [], i, h => by simp at h
  | b :: l, 0, h => by simp at h; subst h; simp
  | b :: l, i + 1, h => by
    have := unlisted_set l i (by simpa using h)
    rw [List.set_cons_succ, List.filter_cons, List.filter_cons]
    cases b <;> simp only [beq_self_eq_true, if_true, List.length_cons, show (true == false) = false from rfl, Bool.false_eq_true, if_false] <;> omega
theorem ready_mem {listed : Array Bool} {i : Nat} (h : i ∈ Region.ready md ops listed) : i < ops.size ∧ listed.getD i true = false ∧ ∃ o, ops[i]? = some o ∧ ∀ e ∈ o.after, Region.binds md e = true → listed.getD e.on false = true := by
  unfold Region.ready at h
  rw [List.mem_filter, List.mem_range] at h
  obtain ⟨h1, h2⟩ := h
  simp only [Bool.and_eq_true, Bool.not_eq_true'] at h2
  obtain ⟨h3, h4⟩ := h2
  refine ⟨h1, h3, ops[i], Array.getElem?_eq_getElem h1, fun e he hb => ?_⟩
  rw [Array.getElem?_eq_getElem h1, Option.map_some, Option.getD_some] at h4
  have h5 := Array.all_eq_true'.1 h4 e he
  simpa [hb] using h5
theorem ready_nil {listed : Array Bool} (hb : backEdges md ops = true) (hs : listed.size = ops.size) (h : Region.ready md ops listed = []) : ∀ i, i < ops.size → listed.getD i true = true := by
  intro i
  induction i using Nat.strongRecOn with
  | _ i ih =>
    intro hi
    refine Classical.byContradiction fun hn => ?_
    have hn' : listed.getD i true = false := by simpa using hn
    have hm : i ∈ Region.ready md ops listed := by
      unfold Region.ready
      rw [List.mem_filter, List.mem_range]
      refine ⟨hi, ?_⟩
      rw [hn', Array.getElem?_eq_getElem hi, Option.map_some, Option.getD_some]
      simp only [Bool.not_false, Bool.true_and]
      refine Array.all_eq_true'.2 fun e he => ?_
      unfold backEdges at hb
      have h1 := List.all_eq_true.1 hb i (List.mem_range.2 hi)
      rw [Array.getElem?_eq_getElem hi, Option.map_some, Option.getD_some] at h1
      have h2 := Array.all_eq_true'.1 h1 e he
      cases hbd : Region.binds md e with
      | false => simp
      | true =>
        simp [hbd] at h2
        have h3 := ih e.on h2 (by omega)
        have h4 : e.on < listed.size := by omega
        simp only [Array.getD, h4, dite_true] at h3 ⊢
        simpa using h3
    rw [h] at hm
    cases hm
theorem all_true {listed : Array Bool} {n : Nat} (hs : listed.size = n) (h : ∀ i, i < n → listed.getD i true = true) : listed = Array.replicate n true := by
  apply Array.ext
  · simp [hs]
  · intro i h1 h2
    have := h i (by omega)
    simp only [Array.getD, h1, dite_true] at this
    simpa using this
theorem unlisted_zero {l : List Bool} (h : (l.filter (· == false)).length = 0) : ∀ b ∈ l, b = true := by
  intro b hb
  cases b with
  | true => rfl
  | false =>
    have h1 : false ∈ l.filter (· == false) := List.mem_filter.2 ⟨hb, rfl⟩
    rw [List.eq_nil_of_length_eq_zero h] at h1
    cases h1
theorem wpAny_inv {J : Array Bool → Act → World → Prop} (hb : backEdges md ops = true)
    (hstep : ∀ (i : Nat) (o : Oper) (listed : Array Bool) (a : Act) (w : World), i < ops.size → ops[i]? = some o → listed.size = ops.size → (∀ e ∈ o.after, Region.binds md e = true → listed.getD e.on false = true) → J listed a w →
      ∀ K : Act → World → Prop, (∀ a' w', J (listed.setIfInBounds i true) a' w' → K a' w') → if Region.wanted o (yielded ops a.tmps) = true then Oper.wp P o a w K Q else K (a.put o.dst undef) w)
    (hdone : ∀ a w, J (Array.replicate ops.size true) a w → Q .normal a w) :
    ∀ (fuel : Nat) (listed : Array Bool) (a : Act) (w : World), listed.size = ops.size → unlisted listed ≤ fuel → J listed a w → wpAny P md ops Q fuel listed a w
  | 0, listed, a, w, hs, hf, hJ => by
    have hall : ∀ i, i < ops.size → listed.getD i true = true := fun i hi => by
      have h1 := unlisted_zero (Nat.le_zero.1 hf) (listed[i]'(by omega)) (by simp)
      have h2 : i < listed.size := by omega
      simp only [Array.getD, h2, dite_true]
      exact h1
    refine ⟨?_, hdone a w (by rw [← all_true hs hall]; exact hJ)⟩
    refine List.eq_nil_iff_forall_not_mem.2 fun i hi => ?_
    obtain ⟨h1, h2, _⟩ := ready_mem hi
    rw [hall i h1] at h2
    cases h2
  | fuel + 1, listed, a, w, hs, hf, hJ => by
    refine ⟨fun hr => hdone a w (by rw [← all_true hs (ready_nil hb hs hr)]; exact hJ), fun i hi => ?_⟩
    obtain ⟨h1, h2, o, ho, he⟩ := ready_mem hi
    have hst := hstep i o listed a w h1 ho hs he hJ (wpAny P md ops Q fuel (listed.setIfInBounds i true)) (fun a' w' hj => wpAny_inv hb hstep hdone fuel _ a' w' (by simpa using hs) (by
      have h3 : i < listed.size := by omega
      have h4 : listed.toList[i]? = some false := by
        simp only [Array.getD, h3, dite_true] at h2
        rw [List.getElem?_eq_getElem (by simpa using h3)]
        simpa using h2
      have h5 := unlisted_set _ _ h4
      unfold unlisted at hf ⊢
      rw [Array.toList_setIfInBounds]
      omega) hj)
    unfold wpOp
    simp only [ho]
    by_cases hw : Region.wanted o (yielded ops a.tmps) = true
    · rw [if_pos hw] at hst ⊢; exact .inl hst
    · rw [if_neg hw] at hst ⊢; exact hst
theorem wp_region_inv {J : Array Bool → Act → World → Prop} {id : Nat} {a : Act} {w : World} (hm : P.follows .mixedOrders = true) (hb : backEdges .any ops = true)
    (h0 : J (Array.replicate ops.size false) a w.drew)
    (hstep : ∀ (i : Nat) (o : Oper) (listed : Array Bool) (a : Act) (w : World), i < ops.size → ops[i]? = some o → listed.size = ops.size → (∀ e ∈ o.after, Region.binds .any e = true → listed.getD e.on false = true) → J listed a w →
      ∀ K : Act → World → Prop, (∀ a' w', J (listed.setIfInBounds i true) a' w' → K a' w') → if Region.wanted o (yielded ops a.tmps) = true then Oper.wp P o a w K Q else K (a.put o.dst undef) w)
    (hdone : ∀ a w, J (Array.replicate ops.size true) a w → Q .normal a w) : (Code.region id ops true).wp P Q a w :=
  wp_region_any hm (wpAny_inv hb hstep hdone _ _ _ _ (by simp) (by unfold unlisted; exact Nat.le_trans (List.length_filter_le _ _) (by simp)) h0)
end
/- the frame's slots that the region's operations write, by the operations' numbers -/
def upd (vs : Nat → Value) (i : Nat) (v : Value) : Nat → Value := fun k => if k = i then v else vs k
def fillV : List Oper → Nat → (Nat → Value) → Act → Act
  | [], _, _, a => a
  | o :: l, k, vs, a => fillV l (k + 1) vs (a.put o.dst (vs k))
theorem put_put (a : Act) (d : Option Tmp) (u v : Value) : (a.put d u).put d v = a.put d v := by
  cases d with
  | none => rfl
  | some d =>
    show ({ a with tmps := (a.tmps.setIfInBounds d u).setIfInBounds d v } : Act) = { a with tmps := a.tmps.setIfInBounds d v }
    congr 1
    simp
theorem fillV_comm : ∀ (l : List Oper) (k : Nat) (vs : Nat → Value) (a : Act) (d : Option Tmp) (v : Value), (∀ o ∈ l, ∀ x, o.dst = some x → d ≠ some x) → (fillV l k vs a).put d v = fillV l k vs (a.put d v)
  | [], _, _, _, _, _, _ => rfl
  | o :: l, k, vs, a, d, v, h => by
    rw [fillV, fillV, fillV_comm l (k + 1) vs _ d v (fun o' ho => h o' (List.mem_cons_of_mem _ ho)), Act.put_comm a (vs k) v (fun x hx => h o (List.mem_cons_self ..) x hx)]
theorem fillV_congr : ∀ (l : List Oper) (k : Nat) (vs vs' : Nat → Value) (a : Act), (∀ j, k ≤ j → vs j = vs' j) → fillV l k vs a = fillV l k vs' a
  | [], _, _, _, _, _ => rfl
  | o :: l, k, vs, vs', a, h => by
    rw [fillV, fillV, h k (Nat.le_refl _), fillV_congr l (k + 1) vs vs' _ (fun j hj => h j (by omega))]
theorem fillV_put : ∀ (l : List Oper) (k : Nat) (vs : Nat → Value) (a : Act) (i : Nat) (o : Oper) (v : Value), l[i]? = some o → (l.map (·.dst)).Nodup → (fillV l k vs a).put o.dst v = fillV l k (upd vs (k + i) v) a
  | [], _, _, _, _, _, _, h, _ => by simp at h
  | o' :: l, k, vs, a, 0, o, v, h, hn => by
    have e : o' = o := by simpa using h
    subst e
    rw [List.map_cons, List.nodup_cons] at hn
    rw [fillV, fillV_comm l (k + 1) vs _ o'.dst v (fun o ho x hx hd => hn.1 (by rw [hd, ← hx]; exact List.mem_map_of_mem ho)), put_put, fillV]
    have e1 : upd vs (k + 0) v k = v := by simp [upd]
    rw [e1]
    exact fillV_congr l (k + 1) _ _ _ (fun j hj => by simp [upd]; omega)
  | o' :: l, k, vs, a, i + 1, o, v, h, hn => by
    rw [List.map_cons, List.nodup_cons] at hn
    rw [fillV, fillV, fillV_put l (k + 1) vs _ i o v (by simpa using h) hn.2]
    have e1 : upd vs (k + (i + 1)) v k = vs k := by simp [upd]
    rw [e1, show k + 1 + i = k + (i + 1) by omega]
section
variable {P : Program} {ops : Array Oper} {Q : Exit → Act → World → Prop}
end
end Go.Proofs.YtcpjignlhlcnpaaDoor
