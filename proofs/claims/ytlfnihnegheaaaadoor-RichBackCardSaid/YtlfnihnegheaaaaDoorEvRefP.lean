/- Walks: the EVR of a text, by the document. -/
import Derived.Test.YtlfnihnegheaaaaDoorEvRefW
namespace Go.Proofs.YtlfnihnegheaaaaDoor
open Go.RowKit Go.Shelf

theorem parseV_r (s : Bytes) : parseV s = match rOf s with | some e => .tuple #[e.val, .int .i64 0] | none => .tuple #[zeroE.val, .int .i64 4] := by unfold parseV; rw [rOf_eq]; cases evOf s <;> rfl
theorem vfrom_lt : ∀ (m : Nat) (l : Bytes), l.length ≤ m → (∀ c ∈ l, dgt c = true) → vfrom 0 l < 10 ^ m
  | 0, l, h, _ => by
    obtain rfl := List.eq_nil_of_length_eq_zero (Nat.le_zero.1 h)
    rw [vfrom_nil]; decide
  | m + 1, l, h, hd => by
    by_cases hne : l = []
    · subst hne; rw [vfrom_nil]; exact Nat.pow_pos (by decide)
    · obtain ⟨r, c, rfl⟩ : ∃ r c, l = r ++ [c] := ⟨_, _, (List.dropLast_concat_getLast hne).symm⟩
      have h1 := vfrom_lt m r (by simp at h; omega) (fun x hx => hd x (by simp [hx]))
      have hc := hd c (by simp)
      unfold dgt at hc
      have hc := of_decide_eq_true hc
      rw [vfrom_app, vfrom_cons, vfrom_nil, Nat.pow_succ]
      omega
theorem rnum_of {A : ByteArray} (h1 : 1 ≤ A.size) (h2 : A.size ≤ 10) (h3 : A[0].toNat ≠ 48) (h4 : ∀ c ∈ A.toList, dgt c = true) : rnum A.toList = true := by
  have h5 : A.toList.head?.map (·.toNat) ≠ some 48 := by
    have := toList_drop A 0 (by omega)
    rw [List.drop_zero] at this
    rw [this]; simpa using h3
  unfold rnum
  simp only [Bool.and_eq_true, decide_eq_true_eq, Bool.not_eq_true', List.all_eq_true, beq_eq_false_iff_ne, ne_eq]
  exact ⟨by rw [size_toList]; exact h1, by rw [size_toList]; exact h2, h5, h4⟩
theorem rnum_no1 {A : ByteArray} (h : A.size = 0 ∨ 10 < A.size) : rnum A.toList = false := by
  unfold rnum
  rw [size_toList]
  rcases h with h | h
  · rw [decide_eq_false (by omega)]; rfl
  · rw [decide_eq_false (p := A.size ≤ 10) (by omega)]; simp
theorem rnum_no2 {A : ByteArray} (h0 : 0 < A.size) (h : A[0].toNat = 48) : rnum A.toList = false := by
  have := toList_drop A 0 h0
  rw [List.drop_zero] at this
  unfold rnum
  rw [this]; simp [h]
theorem rnum_no3 {A : ByteArray} {k : Nat} (hk : k < A.size) (h : dgt A[k] = false) : rnum A.toList = false := by
  cases hr : rnum A.toList with
  | false => rfl
  | true =>
    unfold rnum at hr
    simp only [Bool.and_eq_true, List.all_eq_true] at hr
    have := hr.2.2.2 A[k] (by rw [← toList_get A k hk]; exact List.getElem_mem _)
    rw [h] at this; cases this
theorem drew_pe {a0 a1 a2 b0 b1 b2 : Value} {n : Nat} {w W : World} (h : W.cell? ⟨n, 0, none⟩ = some (a0) ∧ W.cell? ⟨n, 1, none⟩ = some (a1) ∧ W.cell? ⟨n, 2, none⟩ = some (a2) ∧ W.cell? ⟨n + 1, 0, none⟩ = some (b0) ∧ W.cell? ⟨n + 1, 1, none⟩ = some (b1) ∧ W.cell? ⟨n + 1, 2, none⟩ = some (b2) ∧ n < W.heap.size ∧ n + 1 < W.heap.size ∧ W.frozen? ⟨n, 0, none⟩ = false ∧ W.frozen? ⟨n, 1, none⟩ = false ∧ W.frozen? ⟨n, 2, none⟩ = false ∧ W.frozen? ⟨n + 1, 0, none⟩ = false ∧ W.frozen? ⟨n + 1, 1, none⟩ = false ∧ W.frozen? ⟨n + 1, 2, none⟩ = false ∧ Below n w W) : W.drew.cell? ⟨n, 0, none⟩ = some (a0) ∧ W.drew.cell? ⟨n, 1, none⟩ = some (a1) ∧ W.drew.cell? ⟨n, 2, none⟩ = some (a2) ∧ W.drew.cell? ⟨n + 1, 0, none⟩ = some (b0) ∧ W.drew.cell? ⟨n + 1, 1, none⟩ = some (b1) ∧ W.drew.cell? ⟨n + 1, 2, none⟩ = some (b2) ∧ n < W.drew.heap.size ∧ n + 1 < W.drew.heap.size ∧ W.drew.frozen? ⟨n, 0, none⟩ = false ∧ W.drew.frozen? ⟨n, 1, none⟩ = false ∧ W.drew.frozen? ⟨n, 2, none⟩ = false ∧ W.drew.frozen? ⟨n + 1, 0, none⟩ = false ∧ W.drew.frozen? ⟨n + 1, 1, none⟩ = false ∧ W.drew.frozen? ⟨n + 1, 2, none⟩ = false ∧ Below n w W.drew := by
  obtain ⟨c0_0, c0_1, c0_2, c1_0, c1_1, c1_2, l0, l1, f0_0, f0_1, f0_2, f1_0, f1_1, f1_2, hB⟩ := h
  exact ⟨c0_0, c0_1, c0_2, c1_0, c1_1, c1_2, l0, l1, f0_0, f0_1, f0_2, f1_0, f1_1, f1_2, hB.drew⟩
end Go.Proofs.YtlfnihnegheaaaaDoor
