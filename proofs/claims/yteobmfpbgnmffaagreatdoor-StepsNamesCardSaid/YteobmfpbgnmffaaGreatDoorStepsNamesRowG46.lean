/- StNmT, StNmM -/
import Derived.Test.YteobmfpbgnmffaaGreatDoorStepsNamesRowG41
import Derived.Test.YteobmfpbgnmffaaGreatDoorStepsNamesRowG45
set_option linter.unusedSimpArgs false
set_option linter.unusedVariables false
namespace Go.Proofs.YteobmfpbgnmffaaGreatDoor
section
/- Rows that are laid one behind the other, as literals; the tables of StepsNames. -/



open Go.RowKit Go.Shelf
set_option linter.unusedVariables false

def allocs (W : World) (os : List Obj) : World := os.foldl World.alloc W
theorem allocs_app (W : World) (a b : List Obj) : allocs W (a ++ b) = allocs (allocs W a) b := List.foldl_append
theorem allocs_size : ∀ (os : List Obj) (W : World), (allocs W os).heap.size = W.heap.size + os.length
  | [], W => rfl
  | o :: os, W => by
    show (allocs (W.alloc o) os).heap.size = _
    rw [allocs_size os, World.size_alloc, List.length_cons]
    omega
theorem allocs_below : ∀ (os : List Obj) (W : World), Below W.heap.size W (allocs W os)
  | [], W => Below.refl _ _
  | o :: os, W => ((Below.refl W.heap.size W).alloc (Nat.le_refl _) o).trans ((allocs_below os (W.alloc o)).mono (by rw [World.size_alloc]; omega))
theorem rd_allocs {α : Type} {enc : α → List Value} {size : Nat} (he : ∀ x, (enc x).length = size) (l : List α) (t : TypeId) (hl : l.length ≤ 1000) (os1 os2 : List Obj) (W : World) : Rd enc size (allocs W (os1 ++ .cells (l.flatMap enc).toArray t :: os2)).heap.size (some ⟨W.heap.size + os1.length, 0, none⟩) l.length l (allocs W (os1 ++ .cells (l.flatMap enc).toArray t :: os2)) := by
  have e : allocs W (os1 ++ .cells (l.flatMap enc).toArray t :: os2) = allocs ((allocs W os1).alloc (.cells (l.flatMap enc).toArray t)) os2 := allocs_app _ _ _
  have h := rd_made he l (allocs W os1) t hl
  have hb := allocs_below os2 ((allocs W os1).alloc (.cells (l.flatMap enc).toArray t))
  rw [allocs_size] at h
  rw [e]
  exact (h.below hb).more hb.size
theorem cell_allocs (os1 os2 : List Obj) (cs : Array Value) (t : TypeId) (W : World) (i : Nat) : (allocs W (os1 ++ .cells cs t :: os2)).cell? ⟨W.heap.size + os1.length, i, none⟩ = cs[i]? := by
  have e : allocs W (os1 ++ .cells cs t :: os2) = allocs ((allocs W os1).alloc (.cells cs t)) os2 := allocs_app _ _ _
  have hb := allocs_below os2 ((allocs W os1).alloc (.cells cs t))
  rw [e, hb.cell (p := ⟨W.heap.size + os1.length, i, none⟩) (by show W.heap.size + os1.length < _; rw [World.size_alloc, allocs_size]; omega), ← allocs_size os1 W]
  exact World.cell?_alloc_at _ _ _ _ rfl
/-- the table of states and steps, as it lies -/
def Tab8 (g : Nat) (W : World) : Prop := g < W.heap.size ∧ ∀ k (hk : k < nmStates.length), ∃ A c A2 c2, W.cell? ⟨g, k * 2, none⟩ = some (.slice A nmStates[k].1.length c) ∧ W.cell? ⟨g, k * 2 + 1, none⟩ = some (.slice A2 nmStates[k].2.length c2) ∧ Rd encI 1 W.heap.size A c nmStates[k].1 W ∧ Rd encSt 2 W.heap.size A2 c2 nmStates[k].2 W
theorem Tab8.then {g : Nat} {W W' : World} (h : Tab8 g W) (hb : Below W.heap.size W W') : Tab8 g W' := ⟨Nat.lt_of_lt_of_le h.1 hb.size, fun k hk => by
  obtain ⟨A, c, A2, c2, h1, h2, h3, h4⟩ := h.2 k hk
  exact ⟨A, c, A2, c2, (hb.cell (p := ⟨g, k * 2, none⟩) h.1).trans h1, (hb.cell (p := ⟨g, k * 2 + 1, none⟩) h.1).trans h2, (h3.below hb).more hb.size, (h4.below hb).more hb.size⟩⟩
/-- the table of steps that are refused, as it lies -/
def Tab5 (g : Nat) (W : World) : Prop := g < W.heap.size ∧ ∀ k (hk : k < nmBad.length), ∃ A c, W.cell? ⟨g, k, none⟩ = some (.slice A nmBad[k].length c) ∧ Rd encSt 2 W.heap.size A c nmBad[k] W
theorem Tab5.then {g : Nat} {W W' : World} (h : Tab5 g W) (hb : Below W.heap.size W W') : Tab5 g W' := ⟨Nat.lt_of_lt_of_le h.1 hb.size, fun k hk => by
  obtain ⟨A, c, h1, h2⟩ := h.2 k hk
  exact ⟨A, c, (hb.cell (p := ⟨g, k, none⟩) h.1).trans h1, (h2.below hb).more hb.size⟩⟩
end
section
/- The tables of StepsNames, as they are laid. -/


open Go.RowKit Go.Shelf
set_option linter.unusedVariables false

def tabO : List Obj := [.cells #[.int .i64 0, .int .i64 1, .int .i64 2, .int .i64 3, .int .i64 4] 3, .cells #[.int .i64 1, .int .i64 2, .int .i64 3, .int .i64 4] 3, .cells #[.int .u8 6, .int .i64 0] 61, .cells #[.int .i64 5, .int .i64 3, .int .i64 2, .int .i64 4, .int .i64 3] 3, .cells #[.int .u8 7, .int .i64 0, .int .u8 7, .int .i64 1, .int .u8 4, .int .i64 5] 61, .cells #[.int .i64 6, .int .i64 2, .int .i64 3, .int .i64 4] 3, .cells #[.int .u8 7, .int .i64 0, .int .u8 7, .int .i64 1, .int .u8 3, .int .i64 6] 61, .cells #[.int .i64 1, .int .i64 6, .int .i64 2, .int .i64 3, .int .i64 4] 3, .cells #[.int .u8 7, .int .i64 0, .int .u8 4, .int .i64 6] 61, .cells #[.int .i64 7, .int .i64 2, .int .i64 3, .int .i64 8] 3, .cells #[.int .u8 7, .int .i64 0, .int .u8 7, .int .i64 1, .int .u8 8, .int .i64 4, .int .u8 2, .int .i64 7, .int .u8 5, .int .i64 8] 61, .cells #[.int .i64 0, .int .i64 1, .int .i64 2, .int .i64 3, .int .i64 4, .int .i64 8, .int .i64 10] 3, .cells #[.int .u8 1, .int .i64 8, .int .u8 1, .int .i64 10] 61, .cells #[.int .i64 0, .int .i64 1, .int .i64 2, .int .i64 9, .int .i64 4] 3, .cells #[.int .u8 7, .int .i64 3, .int .u8 4, .int .i64 9] 61]
def tabT (W : World) : Obj := .cells #[.slice (some ⟨W.heap.size, 0, none⟩) 5 5, .slice none 0 0, .slice (some ⟨W.heap.size + 1, 0, none⟩) 4 4, .slice (some ⟨W.heap.size + 1 + 1, 0, none⟩) 1 1, .slice (some ⟨W.heap.size + 1 + 1 + 1, 0, none⟩) 5 5, .slice (some ⟨W.heap.size + 1 + 1 + 1 + 1, 0, none⟩) 3 3, .slice (some ⟨W.heap.size + 1 + 1 + 1 + 1 + 1, 0, none⟩) 4 4, .slice (some ⟨W.heap.size + 1 + 1 + 1 + 1 + 1 + 1, 0, none⟩) 3 3, .slice (some ⟨W.heap.size + 1 + 1 + 1 + 1 + 1 + 1 + 1, 0, none⟩) 5 5, .slice (some ⟨W.heap.size + 1 + 1 + 1 + 1 + 1 + 1 + 1 + 1, 0, none⟩) 2 2, .slice (some ⟨W.heap.size + 1 + 1 + 1 + 1 + 1 + 1 + 1 + 1 + 1, 0, none⟩) 4 4, .slice (some ⟨W.heap.size + 1 + 1 + 1 + 1 + 1 + 1 + 1 + 1 + 1 + 1, 0, none⟩) 5 5, .slice (some ⟨W.heap.size + 1 + 1 + 1 + 1 + 1 + 1 + 1 + 1 + 1 + 1 + 1, 0, none⟩) 7 7, .slice (some ⟨W.heap.size + 1 + 1 + 1 + 1 + 1 + 1 + 1 + 1 + 1 + 1 + 1 + 1, 0, none⟩) 2 2, .slice (some ⟨W.heap.size + 1 + 1 + 1 + 1 + 1 + 1 + 1 + 1 + 1 + 1 + 1 + 1 + 1, 0, none⟩) 5 5, .slice (some ⟨W.heap.size + 1 + 1 + 1 + 1 + 1 + 1 + 1 + 1 + 1 + 1 + 1 + 1 + 1 + 1, 0, none⟩) 2 2] 67
set_option maxRecDepth 100000 in
theorem tab8_made (W : World) : Tab8 (W.heap.size + 15) (allocs W (tabO ++ [tabT W])) := by
  refine ⟨by rw [allocs_size]; show W.heap.size + 15 < W.heap.size + 16; omega, fun k hk => ?_⟩
  have hk' : k < 8 := hk
  obtain rfl | rfl | rfl | rfl | rfl | rfl | rfl | rfl : k = 0 ∨ k = 1 ∨ k = 2 ∨ k = 3 ∨ k = 4 ∨ k = 5 ∨ k = 6 ∨ k = 7 := by omega
  · exact ⟨_, _, _, _, (cell_allocs tabO [] _ _ W 0).trans rfl, (cell_allocs tabO [] _ _ W 1).trans rfl, rd_allocs (enc := encI) (size := 1) (fun _ => rfl) [0, 1, 2, 3, 4] 3 (by decide) ((tabO ++ [tabT W]).take 0) ((tabO ++ [tabT W]).drop 1) W, Rd.nil_ (Nat.zero_le _)⟩
  · exact ⟨_, _, _, _, (cell_allocs tabO [] _ _ W 2).trans rfl, (cell_allocs tabO [] _ _ W 3).trans rfl, rd_allocs (enc := encI) (size := 1) (fun _ => rfl) [1, 2, 3, 4] 3 (by decide) ((tabO ++ [tabT W]).take 1) ((tabO ++ [tabT W]).drop 2) W, rd_allocs (enc := encSt) (size := 2) encSt_len [(6, 0)] 61 (by decide) ((tabO ++ [tabT W]).take 2) ((tabO ++ [tabT W]).drop 3) W⟩
  · exact ⟨_, _, _, _, (cell_allocs tabO [] _ _ W 4).trans rfl, (cell_allocs tabO [] _ _ W 5).trans rfl, rd_allocs (enc := encI) (size := 1) (fun _ => rfl) [5, 3, 2, 4, 3] 3 (by decide) ((tabO ++ [tabT W]).take 3) ((tabO ++ [tabT W]).drop 4) W, rd_allocs (enc := encSt) (size := 2) encSt_len [(7, 0), (7, 1), (4, 5)] 61 (by decide) ((tabO ++ [tabT W]).take 4) ((tabO ++ [tabT W]).drop 5) W⟩
  · exact ⟨_, _, _, _, (cell_allocs tabO [] _ _ W 6).trans rfl, (cell_allocs tabO [] _ _ W 7).trans rfl, rd_allocs (enc := encI) (size := 1) (fun _ => rfl) [6, 2, 3, 4] 3 (by decide) ((tabO ++ [tabT W]).take 5) ((tabO ++ [tabT W]).drop 6) W, rd_allocs (enc := encSt) (size := 2) encSt_len [(7, 0), (7, 1), (3, 6)] 61 (by decide) ((tabO ++ [tabT W]).take 6) ((tabO ++ [tabT W]).drop 7) W⟩
  · exact ⟨_, _, _, _, (cell_allocs tabO [] _ _ W 8).trans rfl, (cell_allocs tabO [] _ _ W 9).trans rfl, rd_allocs (enc := encI) (size := 1) (fun _ => rfl) [1, 6, 2, 3, 4] 3 (by decide) ((tabO ++ [tabT W]).take 7) ((tabO ++ [tabT W]).drop 8) W, rd_allocs (enc := encSt) (size := 2) encSt_len [(7, 0), (4, 6)] 61 (by decide) ((tabO ++ [tabT W]).take 8) ((tabO ++ [tabT W]).drop 9) W⟩
  · exact ⟨_, _, _, _, (cell_allocs tabO [] _ _ W 10).trans rfl, (cell_allocs tabO [] _ _ W 11).trans rfl, rd_allocs (enc := encI) (size := 1) (fun _ => rfl) [7, 2, 3, 8] 3 (by decide) ((tabO ++ [tabT W]).take 9) ((tabO ++ [tabT W]).drop 10) W, rd_allocs (enc := encSt) (size := 2) encSt_len [(7, 0), (7, 1), (8, 4), (2, 7), (5, 8)] 61 (by decide) ((tabO ++ [tabT W]).take 10) ((tabO ++ [tabT W]).drop 11) W⟩
  · exact ⟨_, _, _, _, (cell_allocs tabO [] _ _ W 12).trans rfl, (cell_allocs tabO [] _ _ W 13).trans rfl, rd_allocs (enc := encI) (size := 1) (fun _ => rfl) [0, 1, 2, 3, 4, 8, 10] 3 (by decide) ((tabO ++ [tabT W]).take 11) ((tabO ++ [tabT W]).drop 12) W, rd_allocs (enc := encSt) (size := 2) encSt_len [(1, 8), (1, 10)] 61 (by decide) ((tabO ++ [tabT W]).take 12) ((tabO ++ [tabT W]).drop 13) W⟩
  · exact ⟨_, _, _, _, (cell_allocs tabO [] _ _ W 14).trans rfl, (cell_allocs tabO [] _ _ W 15).trans rfl, rd_allocs (enc := encI) (size := 1) (fun _ => rfl) [0, 1, 2, 9, 4] 3 (by decide) ((tabO ++ [tabT W]).take 13) ((tabO ++ [tabT W]).drop 14) W, rd_allocs (enc := encSt) (size := 2) encSt_len [(7, 3), (4, 9)] 61 (by decide) ((tabO ++ [tabT W]).take 14) ((tabO ++ [tabT W]).drop 15) W⟩
def tabO5 : List Obj := [.cells #[.int .u8 0, .int .i64 0] 61, .cells #[.int .u8 9, .int .i64 0] 61, .cells #[.int .u8 1, .int .i64 0] 61, .cells #[.int .u8 6, .int .i64 5] 61, .cells #[.int .u8 6, .int .i64 0, .int .u8 7, .int .i64 0] 61]
def tabT5 (W : World) : Obj := .cells #[.slice (some ⟨W.heap.size, 0, none⟩) 1 1, .slice (some ⟨W.heap.size + 1, 0, none⟩) 1 1, .slice (some ⟨W.heap.size + 1 + 1, 0, none⟩) 1 1, .slice (some ⟨W.heap.size + 1 + 1 + 1, 0, none⟩) 1 1, .slice (some ⟨W.heap.size + 1 + 1 + 1 + 1, 0, none⟩) 2 2] 43
set_option maxRecDepth 100000 in
theorem tab5_made (W : World) : Tab5 (W.heap.size + 5) (allocs W (tabO5 ++ [tabT5 W])) := by
  refine ⟨by rw [allocs_size]; show W.heap.size + 5 < W.heap.size + 6; omega, fun k hk => ?_⟩
  have hk' : k < 5 := hk
  obtain rfl | rfl | rfl | rfl | rfl : k = 0 ∨ k = 1 ∨ k = 2 ∨ k = 3 ∨ k = 4 := by omega
  · exact ⟨_, _, (cell_allocs tabO5 [] _ _ W 0).trans rfl, rd_allocs (enc := encSt) (size := 2) encSt_len [(0, 0)] 61 (by decide) ((tabO5 ++ [tabT5 W]).take 0) ((tabO5 ++ [tabT5 W]).drop 1) W⟩
  · exact ⟨_, _, (cell_allocs tabO5 [] _ _ W 1).trans rfl, rd_allocs (enc := encSt) (size := 2) encSt_len [(9, 0)] 61 (by decide) ((tabO5 ++ [tabT5 W]).take 1) ((tabO5 ++ [tabT5 W]).drop 2) W⟩
  · exact ⟨_, _, (cell_allocs tabO5 [] _ _ W 2).trans rfl, rd_allocs (enc := encSt) (size := 2) encSt_len [(1, 0)] 61 (by decide) ((tabO5 ++ [tabT5 W]).take 2) ((tabO5 ++ [tabT5 W]).drop 3) W⟩
  · exact ⟨_, _, (cell_allocs tabO5 [] _ _ W 3).trans rfl, rd_allocs (enc := encSt) (size := 2) encSt_len [(6, 5)] 61 (by decide) ((tabO5 ++ [tabT5 W]).take 3) ((tabO5 ++ [tabT5 W]).drop 4) W⟩
  · exact ⟨_, _, (cell_allocs tabO5 [] _ _ W 4).trans rfl, rd_allocs (enc := encSt) (size := 2) encSt_len [(6, 0), (7, 0)] 61 (by decide) ((tabO5 ++ [tabT5 W]).take 4) ((tabO5 ++ [tabT5 W]).drop 5) W⟩
end
end Go.Proofs.YteobmfpbgnmffaaGreatDoor
