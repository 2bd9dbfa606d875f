/- Walks: texts of dependencies; the dependency of a text. -/
import Derived.Test.YtpnnhhgojijlbaaDoorDpZ
namespace Go.Proofs.YtpnnhhgojijlbaaDoor
open Go.RowKit Go.Shelf

/-- what Show hands back -/
def showDV (d : Dp) : Value := if dmayB d = true then .tuple #[.string (bs (dpText d)), .int .i64 0] else .tuple #[.string ⟨#[]⟩, .int .i64 4]
theorem showDV_no {d : Dp} (h : dmayB d = false) : showDV d = .tuple #[.string ⟨#[]⟩, .int .i64 4] := by unfold showDV; rw [h, if_neg (by decide)]
theorem showDV_yes {d : Dp} (h : dmayB d = true) : showDV d = .tuple #[.string (bs (dpText d)), .int .i64 0] := by unfold showDV; rw [h, if_pos rfl]
theorem wordsL_no {d : Dp} (h : dmayB d = false) : wordsL d = [] ∧ codeD d = 4 := by unfold wordsL codeD; rw [h, if_neg (by decide)]; exact ⟨rfl, rfl⟩
theorem wordsL_yes {d : Dp} (h : dmayB d = true) : wordsL d = (dwords d).map bs ∧ codeD d = 0 := by unfold wordsL codeD; rw [h, if_pos rfl]; exact ⟨rfl, rfl⟩
theorem map_bs (l : List Bytes) : (l.map bs).map (fun x : ByteArray => x.data.toList) = l := by
  rw [List.map_map]
  have e : ((fun x : ByteArray => x.data.toList) ∘ bs) = id := by funext x; rfl
  rw [e, List.map_id]
theorem map_bs2 (l : List Bytes) : (l.map bs).map (fun x : ByteArray => x.toList) = l := by
  rw [List.map_map]
  have e : ((fun x : ByteArray => x.toList) ∘ bs) = id := by funext x; exact bs_toList x
  rw [e, List.map_id]
theorem join_words (d : Dp) : (⟨(Lib.join (((dwords d).map bs).map (fun x : ByteArray => x.data.toList)) (⟨#[32]⟩ : ByteArray).data.toList).toArray⟩ : ByteArray) = bs (dpText d) := by
  rw [map_bs]
  show bs (Lib.join (dwords d) [32]) = _
  rw [lib_join]; rfl
theorem dwords_two (d : Dp) : (∃ x, dwords d = [x]) ∨ ∃ x y z, dwords d = [x, y, z] := by
  unfold dwords
  split
  · exact .inl ⟨_, rfl⟩
  · exact .inr ⟨_, _, _, rfl⟩
end Go.Proofs.YtpnnhhgojijlbaaDoor
