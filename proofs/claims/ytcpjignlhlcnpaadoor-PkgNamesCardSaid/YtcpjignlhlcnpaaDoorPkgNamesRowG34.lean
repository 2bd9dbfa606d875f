/- RegInv2 -/
import Derived.Test.YtcpjignlhlcnpaaDoorPkgNamesRowG33
import Derived.Test.YtcpjignlhlcnpaaDoorPkgNamesRowG18
import Derived.Test.YtcpjignlhlcnpaaDoorPkgNamesRowG11
import Derived.ArgAppend
set_option linter.unusedSimpArgs false
set_option linter.unusedVariables false
/- A region that draws its order and makes memory in many orders, and stores at its end into a block of the call's own. -/




namespace Go.Proofs.YtcpjignlhlcnpaaDoor
open Go.RowKit Go.Shelf

section
variable {P : Program} {ops : Array Oper} {Q : Exit → Act → World → Prop} {md : Region.Mode}
theorem back_lt (hb : backEdges md ops = true) {i : Nat} {o : Oper} (hi : i < ops.size) (ho : ops[i]? = some o) {e : _} (he : e ∈ o.after) (hbd : Region.binds md e = true) : e.on < i := by
  unfold backEdges at hb
  have h1 := List.all_eq_true.1 hb i (List.mem_range.2 hi)
  rw [ho, Option.map_some, Option.getD_some] at h1
  have h2 := Array.all_eq_true'.1 h1 e he
  simpa [hbd] using h2
/-- **A region that draws its order: all its operations but the last leave alone what is there; the last one stores into block R.** -/
theorem wp_region_vals_last {R : Nat} {PP : Nat → Value → World → Prop} {Fin Pre : World → Prop} {id : Nat} {a : Act} {w : World} (n : Nat) (hn1 : ops.size = n + 1) (hm : P.follows .mixedOrders = true) (hb : backEdges .any ops = true) (hn : (ops.toList.map (·.dst)).Nodup)
    (hmono : ∀ i v w w', PP i v w → ButR R w w' → PP i v w') (hfin : ∀ w w', Fin w → Below w.heap.size w w' → Fin w') (hpre : ∀ w w', Pre w → Below w.heap.size w w' → Pre w') (hfp : ∀ w, Fin w → Pre w) (hp0 : Pre w) (vs0 : Nat → Value) (h0 : fillV ops.toList 0 vs0 a = a)
    (hstep : ∀ (i : Nat) (o : Oper) (vs : Nat → Value) (w' : World), i < n → ops[i]? = some o → (∀ e ∈ o.after, Region.binds .any e = true → PP e.on (vs e.on) w') → ButR R w w' →
      ∀ K : Act → World → Prop, (∀ v w'', PP i v w'' → Below w'.heap.size w' w'' → K ((fillV ops.toList 0 vs a).put o.dst v) w'') → if Region.wanted o (yielded ops (fillV ops.toList 0 vs a).tmps) = true then Oper.wp P o (fillV ops.toList 0 vs a) w' K Q else K ((fillV ops.toList 0 vs a).put o.dst undef) w')
    (hlast : ∀ (o : Oper) (vs : Nat → Value) (w' : World), Pre w' → ops[n]? = some o → (∀ e ∈ o.after, Region.binds .any e = true → PP e.on (vs e.on) w') → ButR R w w' →
      ∀ K : Act → World → Prop, (∀ w'', Fin w'' → ButR R w' w'' → K ((fillV ops.toList 0 vs a).put o.dst undef) w'') → if Region.wanted o (yielded ops (fillV ops.toList 0 vs a).tmps) = true then Oper.wp P o (fillV ops.toList 0 vs a) w' K Q else K ((fillV ops.toList 0 vs a).put o.dst undef) w')
    (hdone : ∀ vs w', Fin w' → ButR R w w' → Q .normal (fillV ops.toList 0 vs a) w') : (Code.region id ops true).wp P Q a w := by
  refine wp_region_inv (J := fun listed a' w' => ∃ vs, a' = fillV ops.toList 0 vs a ∧ ButR R w w' ∧ (∀ i, i < n → listed.getD i false = true → PP i (vs i) w') ∧ (listed.getD n false = true → Fin w') ∧ Pre w') hm hb ⟨vs0, h0.symm, (ButR.refl _ _).drew, fun i _ hi => ?_, fun hi => ?_, hpre _ _ hp0 (Below.refl _ _).drew⟩ ?_ ?_
  · exfalso
    by_cases h : i < ops.size
    · simp [Array.getD, h] at hi
    · simp [Array.getD, h] at hi
  · exfalso
    by_cases h : n < ops.size
    · simp [Array.getD, h] at hi
    · simp [Array.getD, h] at hi
  · rintro i o listed a' w' hi ho hs he ⟨vs, rfl, hB, hP, hF, hR⟩ K hK
    have put : ∀ j k : Nat, j ≠ k → (listed.setIfInBounds j true).getD k false = true → listed.getD k false = true := by
      intro j k hjk h
      rw [Array.getD_eq_getD_getElem?] at h ⊢
      rw [Array.getElem?_setIfInBounds] at h
      simpa [hjk] using h
    have ed : ∀ e ∈ o.after, Region.binds .any e = true → PP e.on (vs e.on) w' := fun e hem hbd => hP _ (by have := back_lt hb hi ho hem hbd; omega) (he e hem hbd)
    by_cases hin : i < n
    · refine hstep i o vs w' hin ho ed hB K (fun v w'' hv hb' => hK _ _ ⟨upd vs i v, ?_, hB.trans (.of hb'), fun j hjn hj => ?_, fun hj => ?_, hpre _ _ hR hb'⟩)
      · have := fillV_put ops.toList 0 vs a i o v (by simpa using ho) hn
        rw [this]; simp
      · by_cases hji : j = i
        · subst hji; simp [upd]; exact hv
        · simp only [upd, hji, if_false]
          exact hmono _ _ _ _ (hP j hjn (put i j (fun e => hji e.symm) hj)) (.of hb')
      · exact hfin _ _ (hF (put i n (by omega) hj)) hb'
    · obtain rfl : i = n := by omega
      refine hlast o vs w' hR ho ed hB K (fun w'' hv hb' => hK _ _ ⟨upd vs i undef, ?_, hB.trans hb', fun j hjn hj => ?_, fun _ => hv, hfp _ hv⟩)
      · have := fillV_put ops.toList 0 vs a i o undef (by simpa using ho) hn
        rw [this]; simp
      · have hji : j ≠ i := by omega
        simp only [upd, hji, if_false]
        exact hmono _ _ _ _ (hP j hjn (put i j (fun e => hji e.symm) hj)) hb'
  · rintro a' w' ⟨vs, rfl, hB, hP, hF, _⟩
    exact hdone vs w' (hF (by simp [Array.getD, hn1])) hB
end
section
variable {P : Program} {α : Type} {enc : α → List Value} (w : World)
/-- append of a slice that came in onto a slice just made, without an element: nothing that was there is turned -/
theorem run_append_made (base : Nat) (t ty e : TypeId) (i : TypeInfo) (z : Value) (size bytes : Nat) (ht : P.underlying t = some (.slice e)) (hi : P.info? e = some i) (hz : i.zero = some z) (hsize : i.size = size) (hby : i.bytes = bytes) (hzc : z.cells.size = size) (hs0 : 0 < size)
    (he : ∀ x, (enc x).length = size) (h1 : ∀ x, ∀ u ∈ enc x, u.oneCell' = true)
    (g : Nat) (hown : w.ownsRow base e size (.slice (some ⟨g, 0, none⟩) 0 0) 0 []) (B : Nat) (A : Option Addr) (c : Nat) (D : List α) (hT : Rd enc size B A c D w) (hn : D.length ≤ 1000000) (hbytes : bytes ≤ 1000) (hbase : base ≤ w.heap.size) :
    ∃ v' w', (Builtin.append_ #[t, t] ty #[.slice (some ⟨g, 0, none⟩) 0 0, .slice A D.length c]).run P w = .ok v' w' ∧ w'.ownsRow base e size v' D.length (D.flatMap enc) ∧ Below w.heap.size w w' := by
  by_cases hD : D = []
  · subst hD
    cases A with
    | none => exact ⟨_, w, run_append_nil w base t ty e i size ht hi _ 0 [] hown c, hown, Below.refl _ _⟩
    | some ad =>
      have hr := run_append_room_cells (P := P) w t ty e i ht hi g 0 0 0 ad 0 c [] (by simp) (by simp) (by simp) (by omega) (by simp) (by simp)
      exact ⟨_, w, hr, hown, Below.refl _ _⟩
  · have hp : 0 < D.length := List.length_pos_iff.2 hD
    obtain ⟨b0, o0, e0, _⟩ := hT.2.2 0 hp
    subst e0
    obtain ⟨v', w', hr, r1, r2⟩ := run_append_arg_grows (P := P) w t ty e i z size bytes ht hi hz hsize hby hzc hs0 ⟨g, 0, none⟩ 0 0 [] (by simp) (by simp) ⟨b0, o0, none⟩ D.length c (D.flatMap enc) (len_flat he D) (fun j u hu => by
      have hj : j < D.length * size := by
        have := (List.getElem?_eq_some_iff.1 hu).1
        rw [len_flat he] at this
        exact this
      have hk : j / size < D.length := Nat.div_lt_of_lt_mul (by rw [Nat.mul_comm]; exact hj)
      obtain ⟨b, o, e2, _, hc⟩ := hT.2.2 (j / size) hk
      cases e2
      rw [Addr.add_lit]
      have hd := Nat.div_add_mod j size
      have h3 := flatMap_at enc size he D (j / size) hk (j % size) (Nat.mod_lt _ hs0)
      rw [show j / size * size + j % size = j by rw [Nat.mul_comm]; exact hd, hu] at h3
      have h4 := hc (j % size) u h3.symm
      rw [show o0 + j / size * size + j % size = o0 + j by rw [Nat.add_assoc, Nat.mul_comm (j / size)]; rw [hd]] at h4
      exact h4) (by omega) (by unfold maxLen; omega) (by rw [Nat.zero_add]; have := Nat.mul_le_mul hn hbytes; omega)
    refine ⟨v', w', hr, ?_, ⟨r2.os, r2.tape, r2.output, r2.size, fun k hk => r2.block k hk (by simp)⟩⟩
    simp only [Nat.zero_add, List.nil_append] at r1
    exact Own.more (enc := enc) (l := D) r1 hbase
theorem wp_append_made {o : Oper} {a : Act} {K : Act → World → Prop} {Q : Exit → Act → World → Prop} (s x : Operand) (t : TypeId)
    (ho : o.op = .call { callee := .builtin .append, args := #[s, x], argTypes := #[t, t] })
    (base : Nat) (e : TypeId) (i : TypeInfo) (z : Value) (size bytes : Nat) (ht : P.underlying t = some (.slice e)) (hi : P.info? e = some i) (hz : i.zero = some z) (hsize : i.size = size) (hby : i.bytes = bytes) (hzc : z.cells.size = size) (hs0 : 0 < size)
    (he : ∀ x, (enc x).length = size) (h1 : ∀ x, ∀ u ∈ enc x, u.oneCell' = true)
    (g : Nat) (hs : a.eval s = .slice (some ⟨g, 0, none⟩) 0 0) (hown : w.ownsRow base e size (.slice (some ⟨g, 0, none⟩) 0 0) 0 []) (B : Nat) (A : Option Addr) (c : Nat) (D : List α) (m : Nat) (hm : m = D.length) (hx : a.eval x = .slice A m c) (hT : Rd enc size B A c D w) (hn : D.length ≤ 1000000) (hbytes : bytes ≤ 1000) (hbase : base ≤ w.heap.size)
    (h : ∀ v' w', Own enc size base e v' D w' → Below w.heap.size w w' → K (a.put o.dst v') w') : Oper.wp P o a w K Q := by
  subst hm
  obtain ⟨v', w', hrun, r1, r2⟩ := run_append_made (P := P) w base t o.type e i z size bytes ht hi hz hsize hby hzc hs0 he h1 g hown B A c D hT hn hbytes hbase
  unfold Oper.wp
  simp [execOp, ho, resolve, invoke, builtin, hs, hx, hrun, Result.andThen]
  exact h v' w' r1 r2
end
end Go.Proofs.YtcpjignlhlcnpaaDoor
