/- joined: EvRefW, EvRefP -/
import Derived.Test.YtpnnhhgojijlbaaDoorEvParse
import Derived.Laws.IdiomStrings
import Derived.RegionTactic
import Derived.Deep.QuietTactic
import Derived.BigQuiet
import Derived.ChangeAlike
namespace Go.Proofs.YtpnnhhgojijlbaaDoor
open Go.RowKit Go.Shelf
set_option linter.unusedVariables false
/- Walks: EVRs by the document: which may be, their texts. -/

theorem below_drewN {B : Nat} {w W : World} {n : Nat} (h : Below B w W) : Below B w (W.drewN n) := ⟨h.os, h.tape, h.output, h.size, h.block⟩
theorem itoa_of {p : Int} {u : Nat} (h : p = (u : Int)) : Lib.itoa p = Lib.decDigits u := by
  rw [h]
  unfold Lib.itoa
  rw [if_neg (by omega), Int.toNat_natCast]
theorem conv1r (W : World) (c : UInt8) : (convert 57 9 (.slice (some ⟨W.heap.size, 0, none⟩) 1 1)).run Tryd.prog (W.alloc (.cells #[.int .u8 (c.toNat : Int)] 5)) = .ok (.string (bs [c])) (W.alloc (.cells #[.int .u8 (c.toNat : Int)] 5)) :=
  run_convert_bytes_back _ _ _ 5 _ _ [c] Tryd.underlying57 Tryd.underlying5 Tryd.underlying9 (fun j hj => by
    match j, hj with
    | 0, _ => simp [Addr.add])
set_option maxRecDepth 100000 in
set_option maxHeartbeats 8000000 in
theorem dig_conv {d : Nat} {c : UInt8} (h : (c.toNat : Int) = 48 + (d : Int)) (W : World) : (convert 57 9 (.slice (some ⟨W.heap.size, 0, none⟩) 1 1)).run Tryd.prog (W.alloc (.cells #[.int .u8 (48 + (d : Int))] 5)) = .ok (.string (bs [c])) (W.alloc (.cells #[.int .u8 (48 + (d : Int))] 5)) := by
  have h1 := conv1r W c
  rw [h] at h1
  exact h1
theorem dig_conv2 {d : Nat} {c : UInt8} (h : (c.toNat : Int) = 48 + (d : Int)) (W W' : World) (hb : Below (W.alloc (.cells #[.int .u8 (48 + (d : Int))] 5)).drew.heap.size (W.alloc (.cells #[.int .u8 (48 + (d : Int))] 5)).drew W') : (convert 57 9 (.slice (some ⟨W.heap.size, 0, none⟩) 1 1)).run Tryd.prog W' = .ok (.string (bs [c])) W' :=
  run_convert_bytes_back _ _ _ 5 _ _ [c] Tryd.underlying57 Tryd.underlying5 Tryd.underlying9 (fun j hj => by
    match j, hj with
    | 0, _ =>
      have h1 := hb.cell (p := ⟨W.heap.size, 0, none⟩) (by show W.heap.size < (W.alloc _).heap.size; simp)
      rw [show (W.alloc (.cells #[.int .u8 (48 + (d : Int))] 5)).drew.cell? ⟨W.heap.size, 0, none⟩ = some (.int .u8 (48 + (d : Int))) from World.cell?_alloc_at _ _ _ _ rfl] at h1
      simp only [Addr.add]
      rw [if_pos trivial] <;> first | (rw [h1]; simp [h]) | (simp [h1, h]))
theorem dig_conv3 {d : Nat} {c : UInt8} (h : (c.toNat : Int) = 48 + (d : Int)) (W : World) : (convert 57 9 (.slice (some ⟨W.heap.size, 0, none⟩) 1 1)).run Tryd.prog (W.alloc (.cells #[.int .u8 (48 + (d : Int))] 5)).drew = .ok (.string (bs [c])) (W.alloc (.cells #[.int .u8 (48 + (d : Int))] 5)).drew := dig_conv2 h W _ (Below.refl _ _)
theorem dig_toInt {d : Nat} (h : d < 10) : ((UInt8.ofNat (48 + d)).toNat : Int) = 48 + (d : Int) := by rw [dig_toNat h]; omega
/- Walks: the EVR of a text, by the document. -/

theorem parseV_r (s : Bytes) : parseV s = match rOf s with | some e => .tuple #[e.val, .int .i64 0] | none => .tuple #[zeroE.val, .int .i64 4] := by unfold parseV; rw [rOf_eq]; cases evOf s <;> rfl
theorem vfrom_lt : ∀ (m : Nat) (l : Bytes), l.length ≤ m → (∀ c ∈ l, dgt c = true) → vfrom 0 l < 10 ^ m
  | 0, l, h, _ => by
    obtain rfl := List.eq_nil_of_length_eq_zero (Nat.le_zero.1 h)
    rw [vfrom_nil]; decide
  | m + 1, l, h, hd => by
    by_cases hne : l = []
    · subst hne; rw [vfrom_nil]; exact Nat.pow_pos (by decide)
    · obtain ⟨r, c, rfl⟩ : ∃ r c, l = r ++ [c] := ⟨_, _, (List.dropLast_concat_getLast hne).symm⟩
      have h1 := vfrom_lt m r (by simp at h; omega) (fun x hx => hd x (by simp [hx]))
      have hc := hd c (by simp)
      unfold dgt at hc
      have hc := of_decide_eq_true hc
      rw [vfrom_app, vfrom_cons, vfrom_nil, Nat.pow_succ]
      omega
theorem rnum_of {A : ByteArray} (h1 : 1 ≤ A.size) (h2 : A.size ≤ 10) (h3 : A[0].toNat ≠ 48) (h4 : ∀ c ∈ A.toList, dgt c = true) : rnum A.toList = true := by
  have h5 : A.toList.head?.map (·.toNat) ≠ some 48 := by
    have := toList_drop A 0 (by omega)
    rw [List.drop_zero] at this
    rw [this]; simpa using h3
  unfold rnum
  simp only [Bool.and_eq_true, decide_eq_true_eq, Bool.not_eq_true', List.all_eq_true, beq_eq_false_iff_ne, ne_eq]
  exact ⟨by rw [size_toList]; exact h1, by rw [size_toList]; exact h2, h5, h4⟩
theorem rnum_no1 {A : ByteArray} (h : A.size = 0 ∨ 10 < A.size) : rnum A.toList = false := by
  unfold rnum
  rw [size_toList]
  rcases h with h | h
  · rw [decide_eq_false (by omega)]; rfl
  · rw [decide_eq_false (p := A.size ≤ 10) (by omega)]; simp
theorem rnum_no2 {A : ByteArray} (h0 : 0 < A.size) (h : A[0].toNat = 48) : rnum A.toList = false := by
  have := toList_drop A 0 h0
  rw [List.drop_zero] at this
  unfold rnum
  rw [this]; simp [h]
theorem rnum_no3 {A : ByteArray} {k : Nat} (hk : k < A.size) (h : dgt A[k] = false) : rnum A.toList = false := by
  cases hr : rnum A.toList with
  | false => rfl
  | true =>
    unfold rnum at hr
    simp only [Bool.and_eq_true, List.all_eq_true] at hr
    have := hr.2.2.2 A[k] (by rw [← toList_get A k hk]; exact List.getElem_mem _)
    rw [h] at this; cases this
theorem drew_pe {a0 a1 a2 b0 b1 b2 : Value} {n : Nat} {w W : World} (h : W.cell? ⟨n, 0, none⟩ = some (a0) ∧ W.cell? ⟨n, 1, none⟩ = some (a1) ∧ W.cell? ⟨n, 2, none⟩ = some (a2) ∧ W.cell? ⟨n + 1, 0, none⟩ = some (b0) ∧ W.cell? ⟨n + 1, 1, none⟩ = some (b1) ∧ W.cell? ⟨n + 1, 2, none⟩ = some (b2) ∧ n < W.heap.size ∧ n + 1 < W.heap.size ∧ W.frozen? ⟨n, 0, none⟩ = false ∧ W.frozen? ⟨n, 1, none⟩ = false ∧ W.frozen? ⟨n, 2, none⟩ = false ∧ W.frozen? ⟨n + 1, 0, none⟩ = false ∧ W.frozen? ⟨n + 1, 1, none⟩ = false ∧ W.frozen? ⟨n + 1, 2, none⟩ = false ∧ Below n w W) : W.drew.cell? ⟨n, 0, none⟩ = some (a0) ∧ W.drew.cell? ⟨n, 1, none⟩ = some (a1) ∧ W.drew.cell? ⟨n, 2, none⟩ = some (a2) ∧ W.drew.cell? ⟨n + 1, 0, none⟩ = some (b0) ∧ W.drew.cell? ⟨n + 1, 1, none⟩ = some (b1) ∧ W.drew.cell? ⟨n + 1, 2, none⟩ = some (b2) ∧ n < W.drew.heap.size ∧ n + 1 < W.drew.heap.size ∧ W.drew.frozen? ⟨n, 0, none⟩ = false ∧ W.drew.frozen? ⟨n, 1, none⟩ = false ∧ W.drew.frozen? ⟨n, 2, none⟩ = false ∧ W.drew.frozen? ⟨n + 1, 0, none⟩ = false ∧ W.drew.frozen? ⟨n + 1, 1, none⟩ = false ∧ W.drew.frozen? ⟨n + 1, 2, none⟩ = false ∧ Below n w W.drew := by
  obtain ⟨c0_0, c0_1, c0_2, c1_0, c1_1, c1_2, l0, l1, f0_0, f0_1, f0_2, f1_0, f1_1, f1_2, hB⟩ := h
  exact ⟨c0_0, c0_1, c0_2, c1_0, c1_1, c1_2, l0, l1, f0_0, f0_1, f0_2, f1_0, f1_1, f1_2, hB.drew⟩
end Go.Proofs.YtpnnhhgojijlbaaDoor
