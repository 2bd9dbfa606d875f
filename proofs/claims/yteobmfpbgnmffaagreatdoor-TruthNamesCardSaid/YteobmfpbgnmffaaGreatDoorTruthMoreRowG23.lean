/- RegInv4, PoolMem2 -/
import Derived.Test.YteobmfpbgnmffaaGreatDoorTruthMoreRowG22
set_option linter.unusedSimpArgs false
set_option linter.unusedVariables false
namespace Go.Proofs.YteobmfpbgnmffaaGreatDoor
section
/- A region that draws its order, one of whose operations appends onto a row of the call's own, and whose last ones come in their row. -/


open Go.RowKit Go.Shelf

section
variable {P : Program} {ops : Array Oper} {Q : Exit → Act → World → Prop} {md : Region.Mode}
/-- **As 'wp_region_tail'; and one operation, the s-th, turns what is there in a way of its own (an append onto a row of the call's).** -/
theorem wp_region_once {PP : Nat → Value → World → Prop} {RelS : World → World → Prop} {id : Nat} {a : Act} {w : World} (n s : Nat) (hm : P.follows .mixedOrders = true) (hb : backEdges .any ops = true) (ht : tailEdges n ops = true) (hn : ((ops.toList.take n).map (·.dst)).Nodup) (hsz : n ≤ ops.size) (hsn : s < n)
    (hmono : ∀ i v w' w'', (Below w.heap.size w w' ∨ RelS w w') → PP i v w' → Below w'.heap.size w' w'' → PP i v w'') (hmonoS : ∀ i v w' w'', i ≠ s → Below w.heap.size w w' → PP i v w' → RelS w' w'' → PP i v w'')
    (hS2 : ∀ b c, RelS w b → Below b.heap.size b c → RelS w c) (hS3 : ∀ b c, Below w.heap.size w b → RelS b c → RelS w c) (vs0 : Nat → Value) (h0 : fillV (ops.toList.take n) 0 vs0 a = a)
    (hstep : ∀ (i : Nat) (o : Oper) (vs : Nat → Value) (w' : World), i < n → i ≠ s → ops[i]? = some o → (∀ e ∈ o.after, Region.binds .any e = true → PP e.on (vs e.on) w') → (Below w.heap.size w w' ∨ RelS w w') → (((ops[s]?).map fun o' => o'.after.any fun e => Region.binds .any e && e.on == i).getD false = true → Below w.heap.size w w') →
      ∀ K : Act → World → Prop, (∀ v w'', PP i v w'' → Below w'.heap.size w' w'' → K ((fillV (ops.toList.take n) 0 vs a).put o.dst v) w'') → if Region.wanted o (yielded ops (fillV (ops.toList.take n) 0 vs a).tmps) = true then Oper.wp P o (fillV (ops.toList.take n) 0 vs a) w' K Q else K ((fillV (ops.toList.take n) 0 vs a).put o.dst undef) w')
    (hstepS : ∀ (o : Oper) (vs : Nat → Value) (w' : World), ops[s]? = some o → (∀ e ∈ o.after, Region.binds .any e = true → PP e.on (vs e.on) w') → Below w.heap.size w w' →
      ∀ K : Act → World → Prop, (∀ v w'', PP s v w'' → RelS w' w'' → K ((fillV (ops.toList.take n) 0 vs a).put o.dst v) w'') → if Region.wanted o (yielded ops (fillV (ops.toList.take n) 0 vs a).tmps) = true then Oper.wp P o (fillV (ops.toList.take n) 0 vs a) w' K Q else K ((fillV (ops.toList.take n) 0 vs a).put o.dst undef) w')
    (hrest : ∀ vs w', (∀ i, i < n → PP i (vs i) w') → RelS w w' → wpList P ops Q (ops.toList.drop n) (fillV (ops.toList.take n) 0 vs a) w') : (Code.region id ops true).wp P Q a w := by
  let Clo : Array Bool → Prop := fun listed => ∀ j o, ops[j]? = some o → listed.getD j false = true → ∀ e ∈ o.after, Region.binds .any e = true → listed.getD e.on false = true
  refine wp_region_any hm (wpAny_inv3 (J := fun listed a' w' => Clo listed ∧ ((∃ vs, a' = fillV (ops.toList.take n) 0 vs a ∧ ((listed.getD s false = false ∧ Below w.heap.size w w') ∨ (listed.getD s false = true ∧ RelS w w')) ∧ (∀ i, i < n → listed.getD i false = true → PP i (vs i) w') ∧ ∀ i, n ≤ i → listed.getD i false = false) ∨ (∃ m, n < m ∧ (∀ i, i < ops.size → listed.getD i false = decide (i < m)) ∧ m ≤ ops.size ∧ wpList P ops Q (ops.toList.drop m) a' w'))) hb ?_ ?_ _ _ _ _ (by simp) (by unfold unlisted; exact Nat.le_trans (List.length_filter_le _ _) (by simp)) ?_)
  · rintro i o listed a' w' hi ho hs hun he ⟨hc, hJ⟩ K hK
    have hunl : listed.getD i false = false := by
      have h3 : i < listed.size := by omega
      simp only [Array.getD, h3, dite_true] at hun ⊢
      exact hun
    have hclo : Clo (listed.setIfInBounds i true) := by
      intro j o' ho' hj e hem hbd
      rw [getD_set] at hj ⊢
      by_cases hji : i = j
      · subst hji
        rw [ho] at ho'
        cases ho'
        rw [he e hem hbd]; rfl
      · have hj2 : listed.getD j false = true := by simpa [hji] using hj
        rw [hc j o' ho' hj2 e hem hbd]; rfl
    have nxt : ∀ m, m = i → n ≤ m → (∀ j, j < ops.size → listed.getD j false = decide (j < m)) → wpList P ops Q (ops.toList.drop m) a' w' → if Region.wanted o (yielded ops a'.tmps) = true then Oper.wp P o a' w' K Q ∨ (o.asks P a' w' ∧ LetsOut Q) else K (a'.put o.dst undef) w' := by
      rintro m rfl hnm hl hw
      have hd : ops.toList.drop m = o :: ops.toList.drop (m + 1) := by
        have h1 : m < ops.toList.length := by simpa using hi
        rw [List.drop_eq_getElem_cons h1]
        congr 1
        have : ops[m] = o := by rw [Array.getElem?_eq_getElem hi] at ho; exact Option.some.inj ho
        simpa using this
      rw [hd] at hw
      have go : ∀ a2 w2, wpList P ops Q (ops.toList.drop (m + 1)) a2 w2 → K a2 w2 := fun a2 w2 h2 => hK a2 w2 ⟨hclo, .inr ⟨m + 1, by omega, fun j hj => by
        rw [getD_set, hl j hj]
        by_cases h1 : j < m
        · simp [h1]; omega
        · by_cases h2 : j = m
          · subst h2; simp; omega
          · have h3 : ¬ m = j := fun e => h2 e.symm
            simp [h1, h3]; omega, by omega, h2⟩⟩
      unfold wpList at hw
      split
      · rename_i hwt
        rw [if_pos hwt] at hw
        rcases hw with h1 | h1
        · exact .inl (Oper.wp_mono go h1)
        · exact .inr h1
      · rename_i hwt
        rw [if_neg hwt] at hw
        exact go _ _ hw
    by_cases hin : i < n
    · rcases hJ with ⟨vs, rfl, hB, hP, hF⟩ | ⟨m, hm1, hl, _⟩
      · have fill : ∀ v, (fillV (ops.toList.take n) 0 vs a).put o.dst v = fillV (ops.toList.take n) 0 (upd vs i v) a := fun v => by
          have := fillV_put (ops.toList.take n) 0 vs a i o v (by rw [List.getElem?_take]; simp [hin]; simpa using ho) hn
          rw [this]; simp
        have low : ∀ j, n ≤ j → (listed.setIfInBounds i true).getD j false = false := fun j hj => by
          rw [getD_set, hF j hj]
          have : ¬ i = j := by omega
          simp [this]
        have was : ∀ j, j ≠ i → (listed.setIfInBounds i true).getD j false = listed.getD j false := fun j hj => by
          rw [getD_set]
          have : ¬ i = j := fun e => hj e.symm
          simp [this]
        have now : (listed.setIfInBounds i true).getD i false = true := by
          rw [getD_set]
          have : i < listed.size := by omega
          simp [this]
        have hed : ∀ e ∈ o.after, Region.binds .any e = true → PP e.on (vs e.on) w' := fun e hem hbd => hP _ (by have := back_lt hb hi ho hem hbd; omega) (he e hem hbd)
        by_cases his : i = s
        · subst his
          have hB' : Below w.heap.size w w' := by
            rcases hB with ⟨_, h1⟩ | ⟨h1, _⟩
            · exact h1
            · rw [hunl] at h1; cases h1
          have hst := hstepS o vs w' ho hed hB' K (fun v w'' hv hb' => hK _ _ ⟨hclo, .inl ⟨upd vs i v, fill v, .inr ⟨now, hS3 _ _ hB' hb'⟩, fun j hj hjl => by
            by_cases hji : j = i
            · subst hji; simp [upd]; exact hv
            · simp only [upd, hji, if_false]
              exact hmonoS _ _ _ _ hji hB' (hP j hj (by rw [was j hji] at hjl; exact hjl)) hb', low⟩⟩)
          split
          · rename_i hwt; rw [if_pos hwt] at hst; exact .inl hst
          · rename_i hwt; rw [if_neg hwt] at hst; exact hst
        · have hst := hstep i o vs w' hin his ho hed (hB.elim (fun h => .inl h.2) (fun h => .inr h.2)) (fun hd => by
            rcases hB with ⟨_, h2⟩ | ⟨h1, _⟩
            · exact h2
            · exfalso
              cases hso : ops[s]? with
              | none => rw [hso] at hd; simp at hd
              | some o2 =>
                rw [hso, Option.map_some, Option.getD_some] at hd
                obtain ⟨x, hx, h3⟩ := Array.any_eq_true.1 hd
                simp only [Bool.and_eq_true, beq_iff_eq] at h3
                have h4 := hc _ o2 hso h1 _ (Array.getElem_mem hx) h3.1
                rw [h3.2, hunl] at h4
                cases h4) K (fun v w'' hv hb' => hK _ _ ⟨hclo, .inl ⟨upd vs i v, fill v, by
            rw [was s (fun e => his e.symm)]
            rcases hB with ⟨h1, h2⟩ | ⟨h1, h2⟩
            · exact .inl ⟨h1, h2.trans (hb'.mono h2.size)⟩
            · exact .inr ⟨h1, hS2 _ _ h2 hb'⟩, fun j hj hjl => by
            by_cases hji : j = i
            · subst hji; simp [upd]; exact hv
            · simp only [upd, hji, if_false]
              exact hmono _ _ _ _ (hB.elim (fun h => .inl h.2) (fun h => .inr h.2)) (hP j hj (by rw [was j hji] at hjl; exact hjl)) hb', low⟩⟩)
          split
          · rename_i hwt; rw [if_pos hwt] at hst; exact .inl hst
          · rename_i hwt; rw [if_neg hwt] at hst; exact hst
      · rw [hl i hi] at hunl
        have := of_decide_eq_false hunl
        omega
    · have hall : ∀ j, j < i → listed.getD j false = true := by
        intro j hj
        unfold tailEdges at ht
        have h1 := List.all_eq_true.1 ht i (List.mem_range.2 hi)
        rw [decide_eq_false hin, Bool.false_or] at h1
        have h2 := List.all_eq_true.1 h1 j (List.mem_range.2 hj)
        exact waits_listed hc _ i j o ho he h2
      rcases hJ with ⟨vs, rfl, hB, hP, hF⟩ | ⟨m, hm1, hl, hm2, hw⟩
      · have hin2 : n = i := by
          refine Classical.byContradiction fun hne => ?_
          have := hall n (by omega)
          rw [hF n (Nat.le_refl _)] at this
          cases this
        refine nxt n hin2 (Nat.le_refl _) (fun j hj => ?_) (hrest vs w' (fun j hj => hP j hj (hall j (by omega))) (by
          rcases hB with ⟨h1, _⟩ | ⟨_, h2⟩
          · rw [hall s (by omega)] at h1; cases h1
          · exact h2))
        by_cases h1 : j < n
        · rw [decide_eq_true h1]; exact hall j (by omega)
        · rw [decide_eq_false h1]; exact hF j (by omega)
      · have him : m = i := by
          rw [hl i hi] at hunl
          have h1 := of_decide_eq_false hunl
          refine Classical.byContradiction fun hne => ?_
          have h2 := hall m (by omega)
          rw [hl m (by omega)] at h2
          have := of_decide_eq_true h2
          omega
        exact nxt m him (by omega) hl hw
  · rintro a' w' ⟨_, hJ⟩
    have hrep : ∀ i, i < ops.size → (Array.replicate ops.size true).getD i false = true := fun i hi => by simp [Array.getD, hi]
    rcases hJ with ⟨vs, rfl, hB, hP, hF⟩ | ⟨m, hm1, hl, hm2, hw⟩
    · have hge : n = ops.size := by
        refine Classical.byContradiction fun hne => ?_
        have h1 := hF n (Nat.le_refl _)
        rw [hrep n (by omega)] at h1
        cases h1
      have := hrest vs w' (fun j hj => hP j hj (hrep j (by omega))) (by
        rcases hB with ⟨h1, _⟩ | ⟨_, h2⟩
        · rw [hrep s (by omega)] at h1; cases h1
        · exact h2)
      rw [List.drop_eq_nil_of_le (by simp [hge])] at this
      exact this
    · have hge : m = ops.size := by
        refine Classical.byContradiction fun hne => ?_
        have h1 := hl m (by omega)
        rw [hrep m (by omega)] at h1
        have := of_decide_eq_true h1.symm
        omega
      rw [List.drop_eq_nil_of_le (by simp [hge])] at hw
      exact hw
  · refine ⟨fun j o ho hj => ?_, .inl ⟨vs0, h0.symm, .inl ⟨by
      by_cases h : s < ops.size
      · simp [Array.getD, h]
      · simp [Array.getD, h], (Below.refl _ _).drew⟩, fun i hi hj => ?_, fun i hi => ?_⟩⟩
    · exfalso
      by_cases h : j < ops.size
      · simp [Array.getD, h] at hj
      · simp [Array.getD, h] at hj
    · exfalso
      by_cases h : i < ops.size
      · simp [Array.getD, h] at hj
      · simp [Array.getD, h] at hj
    · by_cases h : i < ops.size
      · simp [Array.getD, h]
      · simp [Array.getD, h]
end
end
section
/- A name's numbers, looked up and appended to, while other operations stand between. -/



open Go.RowKit Go.Shelf
set_option linter.unusedVariables false

section
variable {base mb N : Nat} {key : ByteArray} {kl : Lit} {No : Nat → Prop}
/-- what the look-up hands over -/
def LK (base mb N : Nat) (key : ByteArray) (kl : Lit) (No : Nat → Prop) (u : Value) (W : World) : Prop :=
  ∃ (zs : List Int) (D : DataW Unit), W.ownsGroups Tryz.prog 9 base 3 .i64 mb N D ∧ W.ownsInts base 3 .i64 u zs ∧ zs.length ≤ N ∧ W.groupBack Tryz.prog 122 9 base 3 .i64 mb N D (.string key) kl u ∧ W.Shuns mb No ∧ ∀ g, u.ownBlock = some g → ¬ No g
theorem LK.below {u : Value} {W W' : World} (h : LK base mb N key kl No u W) (hb : Below W.heap.size W W') : LK base mb N key kl No u W' := by
  obtain ⟨zs, D, h1, h2, h3, h4, h5, h6⟩ := h
  have hg := grown_of_below hb none
  have hm : mb < W.heap.size := by
    obtain ⟨es, clock, hh, _⟩ := h1
    exact (Array.getElem?_eq_some_iff.1 hh).1
  refine ⟨zs, D, h1.kept hg (by simp) (h5.rowsOff (by simp)), h2.kept hg (by
    cases u.ownBlock <;> simp), h3, fun w1 v' zs' k1 k2 k3 k4 => h4 w1 v' zs' ((grown_of_below hb u.ownBlock).trans k1) k2 k3 (k4.imp id fun ⟨g, e, hge⟩ => ⟨g, e, Nat.le_trans hb.size hge⟩), h5.kept hg hm (by simp), h6⟩
/-- what the append leaves -/
def AP (w : World) (base mb N : Nat) (key : ByteArray) (kl : Lit) (No No2 : Nat → Prop) (x : Int) (v' : Value) (W : World) : Prop :=
  ∃ (W2 : World) (u : Value) (zs : List Int) (D : DataW Unit), Below w.heap.size w W2 ∧ W2.ownsGroups Tryz.prog 9 base 3 .i64 mb N D ∧ W2.ownsInts base 3 .i64 u zs ∧ zs.length ≤ N ∧ W2.groupBack Tryz.prog 122 9 base 3 .i64 mb N D (.string key) kl u ∧ W2.Shuns mb No ∧ (∀ g, u.ownBlock = some g → ¬ No g) ∧
    W2.grownBy W u.ownBlock ∧ W.ownsInts base 3 .i64 v' (zs ++ [x]) ∧ (v'.ownBlock = u.ownBlock ∨ ∃ g, v'.ownBlock = some g ∧ W2.heap.size ≤ g) ∧ ∀ g, v'.ownBlock = some g → ¬ No2 g
theorem AP.below {w : World} {No2 : Nat → Prop} {x : Int} {v' : Value} {W W' : World} (h : AP w base mb N key kl No No2 x v' W) (hb : Below W.heap.size W W') : AP w base mb N key kl No No2 x v' W' := by
  obtain ⟨W2, u, zs, D, h0, h1, h2, h3, h4, h5, h6, h7, h8, h9, h10⟩ := h
  exact ⟨W2, u, zs, D, h0, h1, h2, h3, h4, h5, h6, h7.trans (grown_of_below hb _), h8.kept (grown_of_below hb none) (by cases v'.ownBlock <;> simp), h9, h10⟩
/-- one of the groups' rows has grown -/
def RelN (w : World) (base : Nat) (No : Nat → Prop) (a b : World) : Prop := ∃ row : Option Nat, (∀ j, row = some j → base ≤ j ∧ ¬ No j) ∧ a.grownBy b row
theorem RelN.two {w b c : World} (h : RelN w base No w b) (hb : Below b.heap.size b c) : RelN w base No w c := by
  obtain ⟨row, h1, h2⟩ := h
  exact ⟨row, h1, h2.trans (grown_of_below hb row)⟩
theorem RelN.three {w b c : World} (hb : Below w.heap.size w b) (h : RelN w base No b c) : RelN w base No w c := by
  obtain ⟨row, h1, h2⟩ := h
  exact ⟨row, h1, (grown_of_below hb row).trans h2⟩
/-- where nothing of what was there has turned in the end, the row had not grown -/
theorem RelN.none_ {w a b : World} (h : RelN w base No a b) (h0 : Below w.heap.size w a) (hr : ∀ g, ¬ No g → g < w.heap.size) (hb : Below w.heap.size w b) : Below a.heap.size a b := by
  obtain ⟨row, h1, h2⟩ := h
  refine ⟨h2.os, h2.tape, h2.output, h2.size, fun k hk => ?_⟩
  by_cases e : some k = row
  · obtain ⟨e1, e2⟩ := h1 k e.symm
    have hl := hr k e2
    rw [hb.block k hl, h0.block k hl]
  · exact h2.block k hk e
theorem back_none {w a b : World} (h : RelN w base No w a) (hab : Below a.heap.size a b) (hb : Below w.heap.size w b) : Below w.heap.size w a := by
  obtain ⟨row, h1, h2⟩ := h
  refine ⟨h2.os, h2.tape, h2.output, h2.size, fun k hk => ?_⟩
  rw [← hb.block k hk, hab.block k (Nat.lt_of_lt_of_le hk h2.size)]
end
theorem rel_block {base : Nat} {No : Nat → Prop} {w W : World} (h : Below w.heap.size w W ∨ RelN w base No w W) {k : Nat} (hk : k < w.heap.size) (hne : k < base ∨ No k) : W.heap[k]? = w.heap[k]? := by
  rcases h with h | ⟨row, h1, h2⟩
  · exact h.block k hk
  · exact h2.block k hk fun e => by
      obtain ⟨e1, e2⟩ := h1 k e.symm
      rcases hne with h | h
      · omega
      · exact e2 h
theorem rel_size {base : Nat} {No : Nat → Prop} {w W : World} (h : Below w.heap.size w W ∨ RelN w base No w W) : w.heap.size ≤ W.heap.size := by
  rcases h with h | ⟨row, h1, h2⟩
  · exact h.size
  · exact h2.size
theorem box15_block {b : Nat} {q : Pk} {W W' : World} (h : Box15 b q W) (hb : W'.heap[b]? = W.heap[b]?) (hs : W.heap.size ≤ W'.heap.size) : Box15 b q W' := by
  obtain ⟨⟨hl, c0, c1, c2, c3, c4, c5, c6, c7, c8, c9, c10, c11, c12, c13, c14⟩, hf, hlt⟩ := h
  have k : ∀ i, W'.cell? ⟨b, i, none⟩ = W.cell? ⟨b, i, none⟩ := fun i => World.cell?_of_block (w := W) (a := ⟨b, i, none⟩) hb
  exact ⟨⟨Nat.lt_of_lt_of_le hl hs, (k 0).trans c0, (k 1).trans c1, (k 2).trans c2, (k 3).trans c3, (k 4).trans c4, (k 5).trans c5, (k 6).trans c6, (k 7).trans c7, (k 8).trans c8, (k 9).trans c9, (k 10).trans c10, (k 11).trans c11, (k 12).trans c12, (k 13).trans c13, (k 14).trans c14⟩, fun i hi => (World.frozen?_of_block (w := W) (a := ⟨b, i, none⟩) hb).trans (hf i hi), Nat.lt_of_lt_of_le hlt hs⟩
theorem rd_block {α : Type} {enc : α → List Value} {size B g o c : Nat} {D : List α} {W W' : World} (h : Rd enc size B (some ⟨g, o, none⟩) c D W) (hb : W'.heap[g]? = W.heap[g]?) {B' : Nat} (hB : B ≤ B') : Rd enc size B' (some ⟨g, o, none⟩) c D W' := by
  refine ⟨h.1, h.2.1, fun k hk => ?_⟩
  obtain ⟨b, o', e, hlt, hc⟩ := h.2.2 k hk
  cases e
  exact ⟨g, o, rfl, Nat.lt_of_lt_of_le hlt hB, fun j u hu => (World.cell?_of_block (w := W) hb).trans (hc j u hu)⟩
theorem Shuns_weak {w : World} {b : Nat} {No No' : Nat → Prop} (h : w.Shuns b No) (hn : ∀ g, No' g → No g) : w.Shuns b No' := fun es clock hb x hx g hg hN => h es clock hb x hx g hg (hn g hN)
def encI (z : Int) : List Value := [.int .i64 z]
theorem encI_len (z : Int) : (encI z).length = 1 := rfl
theorem encI_one (z : Int) : ∀ u ∈ encI z, u.oneCell' = true := by
  intro u hu; simp only [encI, List.mem_cons, List.not_mem_nil, or_false] at hu; rw [hu]; rfl
/-- what was appended: a name's numbers, and one more -/
theorem AP.mk {w W w9 : World} {base mb N : Nat} {key : ByteArray} {kl : Lit} {No No2 : Nat → Prop} {x : Int} {u v' : Value} {zs : List Int} {D : DataW Unit} (h0 : Below w.heap.size w W) (h1 : W.ownsGroups Tryz.prog 9 base 3 .i64 mb N D) (h2 : W.ownsInts base 3 .i64 u zs) (h3 : zs.length ≤ N) (h4 : W.groupBack Tryz.prog 122 9 base 3 .i64 mb N D (.string key) kl u) (h5 : W.Shuns mb No) (h6 : ∀ g, u.ownBlock = some g → ¬ No g)
    (hN2 : ∀ g, No2 g → No g) (hN3 : ∀ g, No2 g → g < w.heap.size) (hx : (Lit.int .i64 x).wf = true)
    (ho : w9.ownsRow base 3 1 v' (zs.length + [x].length) (zs.map (Value.int .i64) ++ [x].flatMap encI)) (hg : W.grownBy w9 u.ownBlock) (hl : v'.ownBlock = u.ownBlock ∨ v'.ownBlock = some W.heap.size) : AP w base mb N key kl No No2 x v' w9 := by
  refine ⟨W, u, zs, D, h0, h1, h2, h3, h4, h5, h6, hg, h2.appended (by simpa [encI] using ho) hx, hl.imp id fun e => ⟨_, e, Nat.le_refl _⟩, fun g e hn => ?_⟩
  rcases hl with e2 | e2
  · exact h6 g (by rw [← e2]; exact e) (hN2 g hn)
  · rw [e2] at e; cases e
    have := hN3 _ hn
    have := h0.size
    omega
section
variable {α : Type} {enc : α → List Value} (w : World)
/-- append of a slice onto a row of the call's own, as an operation -/
theorem op_append_rd {P : Program} {o : Oper} {a : Act} {K : Act → World → Prop} {Q : Exit → Act → World → Prop} (s x : Operand) (t : TypeId)
    (ho : o.op = .call { callee := .builtin .append, args := #[s, x], argTypes := #[t, t] })
    (base : Nat) (e : TypeId) (i : TypeInfo) (z : Value) (size bytes : Nat) (ht : P.underlying t = some (.slice e)) (hi : P.info? e = some i) (hz : i.zero = some z) (hsize : i.size = size) (hby : i.bytes = bytes) (hzc : z.cells.size = size) (hs0 : 0 < size)
    (he : ∀ x, (enc x).length = size) (h1 : ∀ x, ∀ u ∈ enc x, u.oneCell' = true)
    (v : Value) (n : Nat) (xs : List Value) (hs : a.eval s = v) (hown : w.ownsRow base e size v n xs) (B : Nat) (A : Option Addr) (c : Nat) (D : List α) (m : Nat) (hm : m = D.length) (hx : a.eval x = .slice A m c) (hT : Rd enc size B A c D w) (hn : n + D.length ≤ 1000000) (hbytes : bytes ≤ 1000) (hbase : base ≤ w.heap.size)
    (h : ∀ v' w', w'.ownsRow base e size v' (n + D.length) (xs ++ D.flatMap enc) → w.grownBy w' v.ownBlock → (v'.ownBlock = v.ownBlock ∨ v'.ownBlock = some w.heap.size) → K (a.put o.dst v') w') : Oper.wp P o a w K Q := by
  subst hm
  obtain ⟨v', w', hrun, r1, r2, r3⟩ := run_append_rd (P := P) w base t o.type e i z size bytes ht hi hz hsize hby hzc hs0 he h1 v n xs hown B A c D hT hn hbytes hbase
  unfold Oper.wp
  simp [execOp, ho, resolve, invoke, builtin, hs, hx, hrun, Result.andThen]
  exact h v' w' r1 r2 r3

set_option maxRecDepth 100000 in
theorem op_lookup_names {o : Oper} {a : Act} {K : Act → World → Prop} {Q : Exit → Act → World → Prop} (m x : Operand) (hop : o.op = Op.lookup 122 m x false) {base mb N : Nat} {key : ByteArray} {No : Nat → Prop} (hm : a.eval m = .map (some mb)) (hx : a.eval x = .string key) (hk : key.size ≤ maxLen) (hN : N < maxLen)
    (hg : Names base mb N w) (hs : w.Shuns mb No) (h : ∀ u, LK base mb N key (.string key.data.toList) No u w → K (a.put o.dst u) w) : Oper.wp Tryz.prog o a w K Q := by
  obtain ⟨D, hD⟩ := hg
  have KS := Maps.string_keyed (P := Tryz.prog) (k := 9) Tryz.underlying9
  obtain ⟨u, zs, hrun, hat, hoi, hzl, hback⟩ := hD.at KS Tryz.underlying122 rfl hN (WideMaps.keyOf_string_mk (P := Tryz.prog) Tryz.underlying9 hk)
  have hsh : ∀ g, u.ownBlock = some g → ¬ No g := by
    obtain ⟨es, clock, hb, F, _⟩ := hD
    rcases Maps.fit_look false KS Tryz.underlying122 rfl hb F (WideMaps.keyOf_string_mk (P := Tryz.prog) Tryz.underlying9 hk) with ⟨hrun', _, _⟩ | ⟨e0, y, hm0, _, hrun', _, _, _⟩
    · rw [hrun] at hrun'
      obtain rfl : u = .slice none 0 0 := by simpa using hrun'
      intro g hg'
      cases hg'
    · rw [hrun] at hrun'
      obtain rfl : u = e0.val := by simpa using hrun'
      exact fun g hg' => hs es clock hb e0 hm0 g hg'
  unfold Oper.wp
  simp [execOp, hop, hm, hx, hrun, Result.andThen]
  exact h u ⟨zs, D, hD, hoi, hzl, hback, hs, hsh⟩
end
end
end Go.Proofs.YteobmfpbgnmffaaGreatDoor
