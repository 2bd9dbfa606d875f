/- Walks: chandleryref02.Texts: whether two rows of texts are the same. -/
import Derived.Test.YtinidiiachedbaaDoorSortW7
namespace Go.Proofs.YtinidiiachedbaaDoor
open Go.RowKit Go.Shelf

/-- the slice reads as these texts -/
def TRow (W : World) (v : Value) (D : List ByteArray) : Prop := (∃ g c, v = .slice (some ⟨g, 0, none⟩) D.length c ∧ g < W.heap.size ∧ ∀ (k : Nat) (h : k < D.length), W.cell? ⟨g, k, none⟩ = some (.string D[k])) ∨ (D = [] ∧ ∃ a c, v = .slice a 0 c)
theorem TRow.calls {W W' : World} {v : Value} {D : List ByteArray} (h : TRow W v D) (hb : Below W.heap.size W W') : TRow W' v D := by
  rcases h with ⟨g, c, e, hg, hc⟩ | h
  · exact .inl ⟨g, c, e, Nat.lt_of_lt_of_le hg hb.size, fun k hk => (hb.cell (p := ⟨g, k, none⟩) hg).trans (hc k hk)⟩
  · exact .inr h
theorem RowS.trow {W : World} {g c n : Nat} {D : List ByteArray} (h : RowS W g D) (hn : n = D.length) : TRow W (.slice (some ⟨g, 0, none⟩) n c) D :=
  .inl ⟨g, c, by rw [hn], h.1, fun k hk => (h.2 k hk).1⟩
set_option maxRecDepth 100000 in
set_option maxHeartbeats 4000000 in
theorem texts_any (u v : Value) (D E : List ByteArray) (w : World) (hD : D.length ≤ 1000000) (hE : E.length ≤ 1000000) (hu : TRow w u D) (hv : TRow w v E) :
    Calls Tryd.prog 13 #[u, v] w fun e w' => e = .returned (.bool (decide (D = E))) ∧ Below w.heap.size w w' := by
  by_cases hl : D.length = E.length
  · by_cases h0 : D = []
    · have h1 : E = [] := List.eq_nil_of_length_eq_zero (by rw [← hl, h0]; rfl)
      subst h0; subst h1
      obtain ⟨a, c, rfl⟩ : ∃ a c, u = .slice a 0 c := by
        rcases hu with ⟨g, c, e, _⟩ | ⟨_, a, c, e⟩
        · exact ⟨_, c, e⟩
        · exact ⟨a, c, e⟩
      obtain ⟨b, d, rfl⟩ : ∃ a c, v = .slice a 0 c := by
        rcases hv with ⟨g, c, e, _⟩ | ⟨_, a, c, e⟩
        · exact ⟨_, c, e⟩
        · exact ⟨a, c, e⟩
      clear hu hv hD hE hl
      go_enter Tryd.func13, Tryd.ntmps13
      go_wp2
      refine wp_loop_rounds 1 ?_
      rw [rounds_succ]
      go_wp2
      go_ret
      exact ⟨ret_bool rfl, Below.refl _ _⟩
    · obtain ⟨g, c, rfl, hg, hc⟩ : ∃ g c, u = .slice (some ⟨g, 0, none⟩) D.length c ∧ g < w.heap.size ∧ ∀ (k : Nat) (h : k < D.length), w.cell? ⟨g, k, none⟩ = some (.string D[k]) := by
        rcases hu with h | h
        · exact h
        · exact absurd h.1 h0
      obtain ⟨f, d, rfl, hf, hd⟩ : ∃ g c, v = .slice (some ⟨g, 0, none⟩) E.length c ∧ g < w.heap.size ∧ ∀ (k : Nat) (h : k < E.length), w.cell? ⟨g, k, none⟩ = some (.string E[k]) := by
        rcases hv with h | h
        · exact h
        · exact absurd (List.eq_nil_of_length_eq_zero (by rw [hl, h.1]; rfl)) h0
      obtain ⟨n, hn⟩ : ∃ n, n = D.length := ⟨_, rfl⟩
      have HN := Lib.hid hn
      have HE := Lib.hid (hn.trans hl)
      rw [← hl, ← hn]
      have hN : n ≤ 1000000 := by omega
      have HC := Lib.hid hc
      have HD := Lib.hid hd
      clear hl h0 hc hd hD hE hu hv hn
      go_enter Tryd.func13, Tryd.ntmps13
      go_wp2
      go_loopw [5] (fun i wr => ∃ k : Nat, k ≤ n ∧ i = .int .i64 (k : Int) ∧ RowKit.Hid (∀ j, j < k → D[j]? = E[j]?) ∧ Below w.heap.size w wr) (fun i _ => n - (intOf i).toNat)
      case atStart => exact ⟨0, by omega, rfl, Lib.hid (by intro j hj; omega), Below.refl _ _⟩
      case round =>
        obtain ⟨k, hk, rfl, hS, hB⟩ := hrel
        rename World => wr
        have HB := Lib.hid hB
        by_cases hlt : k < n
        · have l1 : k < D.length := by have := HN.out; omega
          have l2 : k < E.length := by have := HE.out; omega
          have p1 := (hB.cell (p := ⟨g, k, none⟩) hg).trans (HC.out k l1)
          have p2 := (hB.cell (p := ⟨f, k, none⟩) hf).trans (HD.out k l2)
          have e1 : D[k]? = some D[k] := List.getElem?_eq_getElem l1
          have e2 : E[k]? = some E[k] := List.getElem?_eq_getElem l2
          generalize D[k] = x at *
          generalize E[k] = y at *
          have E1 := Lib.hid e1
          have E2 := Lib.hid e2
          clear e1 e2 l1 l2 hB
          have hlt2 : (k : Int) < (n : Int) := by omega
          by_cases hxy : x = y
          · subst hxy
            go_wp2
            go_region
            go_wp2
            go_roundw
            case rel =>
              refine ⟨k + 1, by omega, by go_num, Lib.hid ?_, HB.out.drew⟩
              intro j hj
              by_cases hjk : j = k
              · subst hjk; rw [E1.out, E2.out]
              · exact hS.out j (by omega)
            case measure => simp [intOf]; omega
          · have hx2 : (x.toList == y.toList) = false := beq_eq_false_iff_ne.2 fun h => hxy (toList_inj h)
            have hx3 : ¬ x.toList = y.toList := fun h => hxy (toList_inj h)
            go_wp2
            go_region
            go_wp2
            go_ret
            refine ⟨ret_bool ?_, HB.out.drew⟩
            symm
            refine decide_eq_false ?_
            intro e
            have h := E1.out
            rw [e, E2.out] at h
            exact hxy (Option.some.inj h).symm
        · have hlt2 : ¬ (k : Int) < (n : Int) := by omega
          go_wp2
          go_ret
          refine ⟨ret_bool ?_, HB.out⟩
          symm
          refine decide_eq_true ?_
          refine List.ext_getElem? ?_
          intro i
          by_cases hi : i < k
          · exact hS.out i hi
          · rw [List.getElem?_eq_none (by have := HN.out; omega), List.getElem?_eq_none (by have := HE.out; omega)]
  · have hne : ((D.length : Int) == (E.length : Int)) = false := by simp only [beq_eq_false_iff_ne]; omega
    have hne2 : ¬ (D.length : Int) = (E.length : Int) := by omega
    have hx : RowKit.Hid (decide (D = E) = false) := Lib.hid (decide_eq_false fun e => hl (by rw [e]))
    obtain ⟨a, c, rfl⟩ : ∃ a c, u = .slice a D.length c := by
      rcases hu with ⟨g, c, e, _⟩ | ⟨h, a, c, e⟩
      · exact ⟨_, c, e⟩
      · exact ⟨a, c, by rw [e, h]; rfl⟩
    obtain ⟨b, d, rfl⟩ : ∃ a c, v = .slice a E.length c := by
      rcases hv with ⟨g, c, e, _⟩ | ⟨h, a, c, e⟩
      · exact ⟨_, c, e⟩
      · exact ⟨a, c, by rw [e, h]; rfl⟩
    rw [hx.out]
    clear hu hv
    generalize D.length = n at *
    generalize E.length = m at *
    go_enter Tryd.func13, Tryd.ntmps13
    go_wp2
    go_ret
    exact ⟨ret_bool rfl, Below.refl _ _⟩
end Go.Proofs.YtinidiiachedbaaDoor
