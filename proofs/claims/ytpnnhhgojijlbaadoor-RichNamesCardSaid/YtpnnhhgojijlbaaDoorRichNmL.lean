/- RichNames in plain terms: its examples. -/
import Derived.Test.YtpnnhhgojijlbaaDoorRcD
namespace Go.Proofs.YtpnnhhgojijlbaaDoor
open Go.RowKit
set_option linter.unusedVariables false

theorem nmg0 : parseL [97] = (some (atomT [97]), 0, 0) ∧ showR (atomT [97]) = ([97], 0) := ⟨parseL_some (parseL_iff.2 ⟨by decide +kernel, by decide +kernel, by decide +kernel⟩), by decide +kernel⟩
theorem nmg1 : parseL [47, 102] = (some (atomT [47, 102]), 0, 0) ∧ showR (atomT [47, 102]) = ([47, 102], 0) := ⟨parseL_some (parseL_iff.2 ⟨by decide +kernel, by decide +kernel, by decide +kernel⟩), by decide +kernel⟩
theorem nmg2 : parseL [97, 32, 62, 61, 32, 49, 58, 50, 45, 51] = (some (.mk 1 ⟨[97], 6, ⟨1, [50], [51]⟩⟩ []), 0, 0) ∧ showR (.mk 1 ⟨[97], 6, ⟨1, [50], [51]⟩⟩ []) = ([97, 32, 62, 61, 32, 49, 58, 50, 45, 51], 0) := ⟨parseL_some (parseL_iff.2 ⟨by decide +kernel, by decide +kernel, by decide +kernel⟩), by decide +kernel⟩
theorem nmg3 : parseL [40, 97, 32, 97, 110, 100, 32, 98, 41] = (some (.mk 2 zeroT [atomT [97], atomT [98]]), 0, 0) ∧ showR (.mk 2 zeroT [atomT [97], atomT [98]]) = ([40, 97, 32, 97, 110, 100, 32, 98, 41], 0) := ⟨parseL_some (parseL_iff.2 ⟨by decide +kernel, by decide +kernel, by decide +kernel⟩), by decide +kernel⟩
theorem nmg4 : parseL [40, 97, 32, 97, 110, 100, 32, 98, 32, 97, 110, 100, 32, 99, 41] = (some (.mk 2 zeroT [atomT [97], atomT [98], atomT [99]]), 0, 0) ∧ showR (.mk 2 zeroT [atomT [97], atomT [98], atomT [99]]) = ([40, 97, 32, 97, 110, 100, 32, 98, 32, 97, 110, 100, 32, 99, 41], 0) := ⟨parseL_some (parseL_iff.2 ⟨by decide +kernel, by decide +kernel, by decide +kernel⟩), by decide +kernel⟩
theorem nmg5 : parseL [40, 97, 32, 111, 114, 32, 40, 98, 32, 119, 105, 116, 104, 32, 99, 41, 41] = (some (.mk 3 zeroT [atomT [97], .mk 6 zeroT [atomT [98], atomT [99]]]), 0, 0) ∧ showR (.mk 3 zeroT [atomT [97], .mk 6 zeroT [atomT [98], atomT [99]]]) = ([40, 97, 32, 111, 114, 32, 40, 98, 32, 119, 105, 116, 104, 32, 99, 41, 41], 0) := ⟨parseL_some (parseL_iff.2 ⟨by decide +kernel, by decide +kernel, by decide +kernel⟩), by decide +kernel⟩
theorem nmg6 : parseL [40, 97, 32, 105, 102, 32, 98, 41] = (some (.mk 4 zeroT [atomT [97], atomT [98]]), 0, 0) ∧ showR (.mk 4 zeroT [atomT [97], atomT [98]]) = ([40, 97, 32, 105, 102, 32, 98, 41], 0) := ⟨parseL_some (parseL_iff.2 ⟨by decide +kernel, by decide +kernel, by decide +kernel⟩), by decide +kernel⟩
theorem nmg7 : parseL [40, 97, 32, 117, 110, 108, 101, 115, 115, 32, 98, 32, 101, 108, 115, 101, 32, 99, 41] = (some (.mk 5 zeroT [atomT [97], atomT [98], atomT [99]]), 0, 0) ∧ showR (.mk 5 zeroT [atomT [97], atomT [98], atomT [99]]) = ([40, 97, 32, 117, 110, 108, 101, 115, 115, 32, 98, 32, 101, 108, 115, 101, 32, 99, 41], 0) := ⟨parseL_some (parseL_iff.2 ⟨by decide +kernel, by decide +kernel, by decide +kernel⟩), by decide +kernel⟩
theorem nmg8 : parseL [40, 97, 32, 119, 105, 116, 104, 32, 98, 32, 119, 105, 116, 104, 32, 99, 41] = (some (.mk 6 zeroT [atomT [97], atomT [98], atomT [99]]), 0, 0) ∧ showR (.mk 6 zeroT [atomT [97], atomT [98], atomT [99]]) = ([40, 97, 32, 119, 105, 116, 104, 32, 98, 32, 119, 105, 116, 104, 32, 99, 41], 0) := ⟨parseL_some (parseL_iff.2 ⟨by decide +kernel, by decide +kernel, by decide +kernel⟩), by decide +kernel⟩
theorem nmg9 : parseL [40, 97, 32, 119, 105, 116, 104, 111, 117, 116, 32, 98, 41] = (some (.mk 7 zeroT [atomT [97], atomT [98]]), 0, 0) ∧ showR (.mk 7 zeroT [atomT [97], atomT [98]]) = ([40, 97, 32, 119, 105, 116, 104, 111, 117, 116, 32, 98, 41], 0) := ⟨parseL_some (parseL_iff.2 ⟨by decide +kernel, by decide +kernel, by decide +kernel⟩), by decide +kernel⟩
theorem nmg10 : parseL [40, 40, 97, 32, 97, 110, 100, 32, 98, 41, 32, 105, 102, 32, 40, 99, 32, 111, 114, 32, 100, 41, 32, 101, 108, 115, 101, 32, 40, 101, 32, 119, 105, 116, 104, 111, 117, 116, 32, 102, 32, 60, 32, 49, 41, 41] = (some (.mk 4 zeroT [.mk 2 zeroT [atomT [97], atomT [98]], .mk 3 zeroT [atomT [99], atomT [100]], .mk 7 zeroT [atomT [101], .mk 1 ⟨[102], 1, ⟨0, [49], []⟩⟩ []]]), 0, 0) ∧ showR (.mk 4 zeroT [.mk 2 zeroT [atomT [97], atomT [98]], .mk 3 zeroT [atomT [99], atomT [100]], .mk 7 zeroT [atomT [101], .mk 1 ⟨[102], 1, ⟨0, [49], []⟩⟩ []]]) = ([40, 40, 97, 32, 97, 110, 100, 32, 98, 41, 32, 105, 102, 32, 40, 99, 32, 111, 114, 32, 100, 41, 32, 101, 108, 115, 101, 32, 40, 101, 32, 119, 105, 116, 104, 111, 117, 116, 32, 102, 32, 60, 32, 49, 41, 41], 0) := ⟨parseL_some (parseL_iff.2 ⟨by decide +kernel, by decide +kernel, by decide +kernel⟩), by decide +kernel⟩
theorem nmb0 : parseL [] = (none, 0, 4) := by rfl
theorem nmb1 : parseL [32, 32] = (none, 2, 4) := by rfl
theorem nmb2 : parseL [41] = (none, 0, 4) := by rfl
theorem nmb3 : parseL [40] = (none, 1, 4) := by rfl
theorem nmb4 : parseL [40, 41] = (none, 1, 4) := by rfl
theorem nmb5 : parseL [40, 97] = (none, 2, 4) := by rfl
theorem nmb6 : parseL [40, 97, 41] = (none, 2, 4) := by rfl
theorem nmb7 : parseL [40, 97, 32, 97, 110, 100] = (none, 6, 4) := by rfl
theorem nmb8 : parseL [40, 97, 32, 97, 110, 100, 41] = (none, 6, 4) := by rfl
theorem nmb9 : parseL [40, 97, 32, 97, 110, 100, 32, 98] = (none, 8, 4) := by rfl
theorem nmb10 : parseL [40, 97, 32, 97, 110, 100, 32, 98, 32, 111, 114, 32, 99, 41] = (none, 9, 4) := by rfl
theorem nmb11 : parseL [40, 97, 32, 97, 110, 100, 32, 98, 32, 101, 108, 115, 101, 32, 99, 41] = (none, 9, 4) := by rfl
theorem nmb12 : parseL [40, 97, 32, 119, 105, 116, 104, 111, 117, 116, 32, 98, 32, 119, 105, 116, 104, 111, 117, 116, 32, 99, 41] = (none, 13, 4) := by rfl
theorem nmb13 : parseL [40, 97, 32, 105, 102, 32, 98, 32, 105, 102, 32, 99, 41] = (none, 8, 4) := by rfl
theorem nmb14 : parseL [40, 97, 32, 105, 102, 32, 98, 32, 101, 108, 115, 101, 32, 99, 32, 101, 108, 115, 101, 32, 100, 41] = (none, 15, 4) := by rfl
theorem nmb15 : parseL [40, 97, 32, 117, 110, 108, 101, 115, 115, 32, 98, 32, 117, 110, 108, 101, 115, 115, 32, 99, 41] = (none, 12, 4) := by rfl
theorem nmb16 : parseL [40, 97, 110, 100, 32, 98, 41] = (none, 1, 4) := by rfl
theorem nmb17 : parseL [97, 32, 97, 110, 100, 32, 98] = (none, 2, 4) := by rfl
theorem nmb18 : parseL [40, 97, 32, 97, 110, 100, 32, 98, 41, 32, 99] = (none, 10, 4) := by rfl
theorem nmb19 : parseL [97, 32, 62] = (none, 0, 4) := by rfl
theorem nmb20 : parseL [97, 32, 62, 32, 62, 32, 49] = (none, 0, 4) := by rfl
theorem nmb21 : parseL [97, 32, 61, 32, 49, 32, 50] = (none, 6, 4) := by rfl
theorem nmb22 : parseL [40, 97, 44, 32, 98, 41] = (none, 1, 4) := by rfl
theorem nmb23 : parseL [40, 97, 32, 97, 110, 100, 32, 98, 41, 41] = (none, 9, 4) := by rfl
theorem nmb24 : parseL [40, 97, 32, 61, 32, 97, 110, 100, 32, 98, 41] = (none, 9, 4) := by rfl
theorem nmb25 : parseL [40, 97, 32, 61, 32, 41] = (none, 1, 4) := by rfl
theorem nmb26 : parseL [97, 9, 98] = (none, 1, 4) := by rfl
def nmG : List (Bytes × RT) := [([97], atomT [97]), ([47, 102], atomT [47, 102]), ([97, 32, 62, 61, 32, 49, 58, 50, 45, 51], .mk 1 ⟨[97], 6, ⟨1, [50], [51]⟩⟩ []), ([40, 97, 32, 97, 110, 100, 32, 98, 41], .mk 2 zeroT [atomT [97], atomT [98]]), ([40, 97, 32, 97, 110, 100, 32, 98, 32, 97, 110, 100, 32, 99, 41], .mk 2 zeroT [atomT [97], atomT [98], atomT [99]]), ([40, 97, 32, 111, 114, 32, 40, 98, 32, 119, 105, 116, 104, 32, 99, 41, 41], .mk 3 zeroT [atomT [97], .mk 6 zeroT [atomT [98], atomT [99]]]), ([40, 97, 32, 105, 102, 32, 98, 41], .mk 4 zeroT [atomT [97], atomT [98]]), ([40, 97, 32, 117, 110, 108, 101, 115, 115, 32, 98, 32, 101, 108, 115, 101, 32, 99, 41], .mk 5 zeroT [atomT [97], atomT [98], atomT [99]]), ([40, 97, 32, 119, 105, 116, 104, 32, 98, 32, 119, 105, 116, 104, 32, 99, 41], .mk 6 zeroT [atomT [97], atomT [98], atomT [99]]), ([40, 97, 32, 119, 105, 116, 104, 111, 117, 116, 32, 98, 41], .mk 7 zeroT [atomT [97], atomT [98]]), ([40, 40, 97, 32, 97, 110, 100, 32, 98, 41, 32, 105, 102, 32, 40, 99, 32, 111, 114, 32, 100, 41, 32, 101, 108, 115, 101, 32, 40, 101, 32, 119, 105, 116, 104, 111, 117, 116, 32, 102, 32, 60, 32, 49, 41, 41], .mk 4 zeroT [.mk 2 zeroT [atomT [97], atomT [98]], .mk 3 zeroT [atomT [99], atomT [100]], .mk 7 zeroT [atomT [101], .mk 1 ⟨[102], 1, ⟨0, [49], []⟩⟩ []]])]
def nmB : List (Bytes × Nat) := [([], 0), ([32, 32], 2), ([41], 0), ([40], 1), ([40, 41], 1), ([40, 97], 2), ([40, 97, 41], 2), ([40, 97, 32, 97, 110, 100], 6), ([40, 97, 32, 97, 110, 100, 41], 6), ([40, 97, 32, 97, 110, 100, 32, 98], 8), ([40, 97, 32, 97, 110, 100, 32, 98, 32, 111, 114, 32, 99, 41], 9), ([40, 97, 32, 97, 110, 100, 32, 98, 32, 101, 108, 115, 101, 32, 99, 41], 9), ([40, 97, 32, 119, 105, 116, 104, 111, 117, 116, 32, 98, 32, 119, 105, 116, 104, 111, 117, 116, 32, 99, 41], 13), ([40, 97, 32, 105, 102, 32, 98, 32, 105, 102, 32, 99, 41], 8), ([40, 97, 32, 105, 102, 32, 98, 32, 101, 108, 115, 101, 32, 99, 32, 101, 108, 115, 101, 32, 100, 41], 15), ([40, 97, 32, 117, 110, 108, 101, 115, 115, 32, 98, 32, 117, 110, 108, 101, 115, 115, 32, 99, 41], 12), ([40, 97, 110, 100, 32, 98, 41], 1), ([97, 32, 97, 110, 100, 32, 98], 2), ([40, 97, 32, 97, 110, 100, 32, 98, 41, 32, 99], 10), ([97, 32, 62], 0), ([97, 32, 62, 32, 62, 32, 49], 0), ([97, 32, 61, 32, 49, 32, 50], 6), ([40, 97, 44, 32, 98, 41], 1), ([40, 97, 32, 97, 110, 100, 32, 98, 41, 41], 9), ([40, 97, 32, 61, 32, 97, 110, 100, 32, 98, 41], 9), ([40, 97, 32, 61, 32, 41], 1), ([97, 9, 98], 1)]
theorem nmG_ok : ∀ x ∈ nmG, parseL x.1 = (some x.2, 0, 0) ∧ showR x.2 = (x.1, 0) := by
  intro x hx
  simp only [nmG, List.mem_cons, List.not_mem_nil, or_false] at hx
  rcases hx with rfl | rfl | rfl | rfl | rfl | rfl | rfl | rfl | rfl | rfl | rfl
  · exact nmg0
  · exact nmg1
  · exact nmg2
  · exact nmg3
  · exact nmg4
  · exact nmg5
  · exact nmg6
  · exact nmg7
  · exact nmg8
  · exact nmg9
  · exact nmg10
theorem nmB_ok : ∀ x ∈ nmB, parseL x.1 = (none, x.2, 4) := by
  intro x hx
  simp only [nmB, List.mem_cons, List.not_mem_nil, or_false] at hx
  rcases hx with rfl | rfl | rfl | rfl | rfl | rfl | rfl | rfl | rfl | rfl | rfl | rfl | rfl | rfl | rfl | rfl | rfl | rfl | rfl | rfl | rfl | rfl | rfl | rfl | rfl | rfl | rfl
  · exact nmb0
  · exact nmb1
  · exact nmb2
  · exact nmb3
  · exact nmb4
  · exact nmb5
  · exact nmb6
  · exact nmb7
  · exact nmb8
  · exact nmb9
  · exact nmb10
  · exact nmb11
  · exact nmb12
  · exact nmb13
  · exact nmb14
  · exact nmb15
  · exact nmb16
  · exact nmb17
  · exact nmb18
  · exact nmb19
  · exact nmb20
  · exact nmb21
  · exact nmb22
  · exact nmb23
  · exact nmb24
  · exact nmb25
  · exact nmb26
theorem nmG_len : ∀ x ∈ nmG, x.1.length ≤ 100 := by decide +kernel
theorem nmB_len : ∀ x ∈ nmB, x.1.length ≤ 100 := by decide +kernel
def nmD : Nat → Bytes | 0 => [97] | n + 1 => 40 :: (nmD n ++ [32, 111, 114, 32, 98, 41])
def nmDT : Nat → RT | 0 => atomT [97] | n + 1 => .mk 3 zeroT [nmDT n, atomT [98]]
def nmM : Nat → Bytes | 0 => [97] | n + 1 => nmM n ++ [32, 97, 110, 100, 32, 97]
theorem nmD8 : parseL (nmD 8) = (some (nmDT 8), 0, 0) := parseL_some (parseL_iff.2 ⟨by decide +kernel, by decide +kernel, by decide +kernel⟩)
set_option maxRecDepth 100000 in
theorem nmD9 : parseL (nmD 9) = (none, 8, 21) := by rfl
theorem nmM22 : parseL (40 :: (nmM 22 ++ [41])) = (some (.mk 2 zeroT (List.replicate 23 (atomT [97]))), 0, 0) := parseL_some (parseL_iff.2 ⟨by decide +kernel, by decide +kernel, by decide +kernel⟩)
set_option maxRecDepth 100000 in
theorem nmM23 : parseL (40 :: (nmM 23 ++ [41])) = (none, 139, 40) := by rfl
end Go.Proofs.YtpnnhhgojijlbaaDoor
