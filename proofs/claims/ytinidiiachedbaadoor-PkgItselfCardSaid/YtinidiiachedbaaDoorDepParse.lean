/- Walks: the dependency of a text. -/
import Derived.Test.YtinidiiachedbaaDoorDepOf
import Derived.Maps.AppendAt
namespace Go.Proofs.YtinidiiachedbaaDoor
open Go.RowKit Go.Shelf

theorem split_le : ∀ (s : Bytes) (w : Bytes), w ∈ splitSp s → w.length ≤ s.length := by
  intro s
  induction s with
  | nil => intro w h; simp [splitSp] at h; subst h; exact Nat.le_refl _
  | cons c l ih =>
    intro w h
    unfold splitSp at h
    split at h
    · rcases List.mem_cons.1 h with rfl | h
      · simp
      · have := ih w h; simp; omega
    · cases hl : splitSp l with
      | nil => exact absurd hl (split_ne l)
      | cons a r =>
        rw [hl] at h ih
        dsimp only at h
        rcases List.mem_cons.1 h with rfl | h
        · have := ih a (by simp); simp; omega
        · have := ih w (by simp [h]); simp; omega
theorem pieces_le (s : ByteArray) (D : List ByteArray) (h : D.map (·.toList) = splitSp s.toList) : ∀ x ∈ D, x.size ≤ s.size := fun x hx => by
  have h2 : x.toList ∈ splitSp s.toList := by rw [← h]; exact List.mem_map_of_mem (f := fun y : ByteArray => y.toList) hx
  have := split_le _ _ h2
  rw [size_toList, size_toList] at this
  exact this
theorem ofV_form (q : Option Dp) : ∃ x op p v l f, ofV q = .tuple #[.agg #[.string x, .int .u8 op, .int .i64 p, .string v, .string l], .int .i64 f] := by
  cases q with
  | none => exact ⟨_, _, _, _, _, _, rfl⟩
  | some d => exact ⟨_, _, _, _, _, _, rfl⟩
theorem countB_le (s : ByteArray) : Lib.countB s ⟨#[32]⟩ ≤ s.size := Lib.countB_le ⟨#[32]⟩ (by decide) s.size s (Nat.le_refl _)
theorem keep_pz {a0 a1 a2 a3 a4 : Value} {n : Nat} {w W W' : World} (h : W.cell? ⟨n, 0, none⟩ = some (a0) ∧ W.cell? ⟨n, 1, none⟩ = some (a1) ∧ W.cell? ⟨n, 2, none⟩ = some (a2) ∧ W.cell? ⟨n, 3, none⟩ = some (a3) ∧ W.cell? ⟨n, 4, none⟩ = some (a4) ∧ n < W.heap.size ∧ W.frozen? ⟨n, 0, none⟩ = false ∧ W.frozen? ⟨n, 1, none⟩ = false ∧ W.frozen? ⟨n, 2, none⟩ = false ∧ W.frozen? ⟨n, 3, none⟩ = false ∧ W.frozen? ⟨n, 4, none⟩ = false ∧ Below n w W) (hb : Below W.heap.size W W') :
    W'.cell? ⟨n, 0, none⟩ = some (a0) ∧ W'.cell? ⟨n, 1, none⟩ = some (a1) ∧ W'.cell? ⟨n, 2, none⟩ = some (a2) ∧ W'.cell? ⟨n, 3, none⟩ = some (a3) ∧ W'.cell? ⟨n, 4, none⟩ = some (a4) ∧ n < W'.heap.size ∧ W'.frozen? ⟨n, 0, none⟩ = false ∧ W'.frozen? ⟨n, 1, none⟩ = false ∧ W'.frozen? ⟨n, 2, none⟩ = false ∧ W'.frozen? ⟨n, 3, none⟩ = false ∧ W'.frozen? ⟨n, 4, none⟩ = false ∧ Below n w W' := by
  obtain ⟨c0_0, c0_1, c0_2, c0_3, c0_4, l0, f0_0, f0_1, f0_2, f0_3, f0_4, hB⟩ := h
  have hB_le : n ≤ W.heap.size := by omega
  exact ⟨(hb.cell (p := ⟨n, 0, none⟩) l0).trans c0_0, (hb.cell (p := ⟨n, 1, none⟩) l0).trans c0_1, (hb.cell (p := ⟨n, 2, none⟩) l0).trans c0_2, (hb.cell (p := ⟨n, 3, none⟩) l0).trans c0_3, (hb.cell (p := ⟨n, 4, none⟩) l0).trans c0_4, Nat.lt_of_lt_of_le l0 hb.size, (hb.frozen (p := ⟨n, 0, none⟩) l0).trans f0_0, (hb.frozen (p := ⟨n, 1, none⟩) l0).trans f0_1, (hb.frozen (p := ⟨n, 2, none⟩) l0).trans f0_2, (hb.frozen (p := ⟨n, 3, none⟩) l0).trans f0_3, (hb.frozen (p := ⟨n, 4, none⟩) l0).trans f0_4, hB.trans (hb.mono hB_le)⟩
theorem tail_pz {a0 a1 a2 a3 a4 : Value} {n : Nat} {w W : World} (h : W.cell? ⟨n, 0, none⟩ = some (a0) ∧ W.cell? ⟨n, 1, none⟩ = some (a1) ∧ W.cell? ⟨n, 2, none⟩ = some (a2) ∧ W.cell? ⟨n, 3, none⟩ = some (a3) ∧ W.cell? ⟨n, 4, none⟩ = some (a4) ∧ n < W.heap.size ∧ W.frozen? ⟨n, 0, none⟩ = false ∧ W.frozen? ⟨n, 1, none⟩ = false ∧ W.frozen? ⟨n, 2, none⟩ = false ∧ W.frozen? ⟨n, 3, none⟩ = false ∧ W.frozen? ⟨n, 4, none⟩ = false ∧ Below n w W) : Below n w W := h.2.2.2.2.2.2.2.2.2.2.2
theorem set_pz00 {a0 a1 a2 a3 a4 : Value} {n : Nat} {w W : World} (h : W.cell? ⟨n, 0, none⟩ = some (a0) ∧ W.cell? ⟨n, 1, none⟩ = some (a1) ∧ W.cell? ⟨n, 2, none⟩ = some (a2) ∧ W.cell? ⟨n, 3, none⟩ = some (a3) ∧ W.cell? ⟨n, 4, none⟩ = some (a4) ∧ n < W.heap.size ∧ W.frozen? ⟨n, 0, none⟩ = false ∧ W.frozen? ⟨n, 1, none⟩ = false ∧ W.frozen? ⟨n, 2, none⟩ = false ∧ W.frozen? ⟨n, 3, none⟩ = false ∧ W.frozen? ⟨n, 4, none⟩ = false ∧ Below n w W) (v : Value) : (W.setCell ⟨n, 0, none⟩ v).cell? ⟨n, 0, none⟩ = some (v) ∧ (W.setCell ⟨n, 0, none⟩ v).cell? ⟨n, 1, none⟩ = some (a1) ∧ (W.setCell ⟨n, 0, none⟩ v).cell? ⟨n, 2, none⟩ = some (a2) ∧ (W.setCell ⟨n, 0, none⟩ v).cell? ⟨n, 3, none⟩ = some (a3) ∧ (W.setCell ⟨n, 0, none⟩ v).cell? ⟨n, 4, none⟩ = some (a4) ∧ n < (W.setCell ⟨n, 0, none⟩ v).heap.size ∧ (W.setCell ⟨n, 0, none⟩ v).frozen? ⟨n, 0, none⟩ = false ∧ (W.setCell ⟨n, 0, none⟩ v).frozen? ⟨n, 1, none⟩ = false ∧ (W.setCell ⟨n, 0, none⟩ v).frozen? ⟨n, 2, none⟩ = false ∧ (W.setCell ⟨n, 0, none⟩ v).frozen? ⟨n, 3, none⟩ = false ∧ (W.setCell ⟨n, 0, none⟩ v).frozen? ⟨n, 4, none⟩ = false ∧ Below n w (W.setCell ⟨n, 0, none⟩ v) := by
  obtain ⟨c0_0, c0_1, c0_2, c0_3, c0_4, l0, f0_0, f0_1, f0_2, f0_3, f0_4, hB⟩ := h
  refine ⟨?_, ?_, ?_, ?_, ?_, ?_, ?_, ?_, ?_, ?_, ?_, ?_⟩
  all_goals first | (rw [World.cell?_setCell_other _ _ _ _ (by simp; try omega)]; assumption) | exact World.cell?_setCell_same _ _ _ (by assumption) | (rw [World.frozen?_setCell]; assumption) | (simp [World.setCell]; assumption) | exact hB.setCell (by simp; try omega) _
theorem set_pz01 {a0 a1 a2 a3 a4 : Value} {n : Nat} {w W : World} (h : W.cell? ⟨n, 0, none⟩ = some (a0) ∧ W.cell? ⟨n, 1, none⟩ = some (a1) ∧ W.cell? ⟨n, 2, none⟩ = some (a2) ∧ W.cell? ⟨n, 3, none⟩ = some (a3) ∧ W.cell? ⟨n, 4, none⟩ = some (a4) ∧ n < W.heap.size ∧ W.frozen? ⟨n, 0, none⟩ = false ∧ W.frozen? ⟨n, 1, none⟩ = false ∧ W.frozen? ⟨n, 2, none⟩ = false ∧ W.frozen? ⟨n, 3, none⟩ = false ∧ W.frozen? ⟨n, 4, none⟩ = false ∧ Below n w W) (v : Value) : (W.setCell ⟨n, 1, none⟩ v).cell? ⟨n, 0, none⟩ = some (a0) ∧ (W.setCell ⟨n, 1, none⟩ v).cell? ⟨n, 1, none⟩ = some (v) ∧ (W.setCell ⟨n, 1, none⟩ v).cell? ⟨n, 2, none⟩ = some (a2) ∧ (W.setCell ⟨n, 1, none⟩ v).cell? ⟨n, 3, none⟩ = some (a3) ∧ (W.setCell ⟨n, 1, none⟩ v).cell? ⟨n, 4, none⟩ = some (a4) ∧ n < (W.setCell ⟨n, 1, none⟩ v).heap.size ∧ (W.setCell ⟨n, 1, none⟩ v).frozen? ⟨n, 0, none⟩ = false ∧ (W.setCell ⟨n, 1, none⟩ v).frozen? ⟨n, 1, none⟩ = false ∧ (W.setCell ⟨n, 1, none⟩ v).frozen? ⟨n, 2, none⟩ = false ∧ (W.setCell ⟨n, 1, none⟩ v).frozen? ⟨n, 3, none⟩ = false ∧ (W.setCell ⟨n, 1, none⟩ v).frozen? ⟨n, 4, none⟩ = false ∧ Below n w (W.setCell ⟨n, 1, none⟩ v) := by
  obtain ⟨c0_0, c0_1, c0_2, c0_3, c0_4, l0, f0_0, f0_1, f0_2, f0_3, f0_4, hB⟩ := h
  refine ⟨?_, ?_, ?_, ?_, ?_, ?_, ?_, ?_, ?_, ?_, ?_, ?_⟩
  all_goals first | (rw [World.cell?_setCell_other _ _ _ _ (by simp; try omega)]; assumption) | exact World.cell?_setCell_same _ _ _ (by assumption) | (rw [World.frozen?_setCell]; assumption) | (simp [World.setCell]; assumption) | exact hB.setCell (by simp; try omega) _
theorem set_pz02 {a0 a1 a2 a3 a4 : Value} {n : Nat} {w W : World} (h : W.cell? ⟨n, 0, none⟩ = some (a0) ∧ W.cell? ⟨n, 1, none⟩ = some (a1) ∧ W.cell? ⟨n, 2, none⟩ = some (a2) ∧ W.cell? ⟨n, 3, none⟩ = some (a3) ∧ W.cell? ⟨n, 4, none⟩ = some (a4) ∧ n < W.heap.size ∧ W.frozen? ⟨n, 0, none⟩ = false ∧ W.frozen? ⟨n, 1, none⟩ = false ∧ W.frozen? ⟨n, 2, none⟩ = false ∧ W.frozen? ⟨n, 3, none⟩ = false ∧ W.frozen? ⟨n, 4, none⟩ = false ∧ Below n w W) (v : Value) : (W.setCell ⟨n, 2, none⟩ v).cell? ⟨n, 0, none⟩ = some (a0) ∧ (W.setCell ⟨n, 2, none⟩ v).cell? ⟨n, 1, none⟩ = some (a1) ∧ (W.setCell ⟨n, 2, none⟩ v).cell? ⟨n, 2, none⟩ = some (v) ∧ (W.setCell ⟨n, 2, none⟩ v).cell? ⟨n, 3, none⟩ = some (a3) ∧ (W.setCell ⟨n, 2, none⟩ v).cell? ⟨n, 4, none⟩ = some (a4) ∧ n < (W.setCell ⟨n, 2, none⟩ v).heap.size ∧ (W.setCell ⟨n, 2, none⟩ v).frozen? ⟨n, 0, none⟩ = false ∧ (W.setCell ⟨n, 2, none⟩ v).frozen? ⟨n, 1, none⟩ = false ∧ (W.setCell ⟨n, 2, none⟩ v).frozen? ⟨n, 2, none⟩ = false ∧ (W.setCell ⟨n, 2, none⟩ v).frozen? ⟨n, 3, none⟩ = false ∧ (W.setCell ⟨n, 2, none⟩ v).frozen? ⟨n, 4, none⟩ = false ∧ Below n w (W.setCell ⟨n, 2, none⟩ v) := by
  obtain ⟨c0_0, c0_1, c0_2, c0_3, c0_4, l0, f0_0, f0_1, f0_2, f0_3, f0_4, hB⟩ := h
  refine ⟨?_, ?_, ?_, ?_, ?_, ?_, ?_, ?_, ?_, ?_, ?_, ?_⟩
  all_goals first | (rw [World.cell?_setCell_other _ _ _ _ (by simp; try omega)]; assumption) | exact World.cell?_setCell_same _ _ _ (by assumption) | (rw [World.frozen?_setCell]; assumption) | (simp [World.setCell]; assumption) | exact hB.setCell (by simp; try omega) _
theorem set_pz03 {a0 a1 a2 a3 a4 : Value} {n : Nat} {w W : World} (h : W.cell? ⟨n, 0, none⟩ = some (a0) ∧ W.cell? ⟨n, 1, none⟩ = some (a1) ∧ W.cell? ⟨n, 2, none⟩ = some (a2) ∧ W.cell? ⟨n, 3, none⟩ = some (a3) ∧ W.cell? ⟨n, 4, none⟩ = some (a4) ∧ n < W.heap.size ∧ W.frozen? ⟨n, 0, none⟩ = false ∧ W.frozen? ⟨n, 1, none⟩ = false ∧ W.frozen? ⟨n, 2, none⟩ = false ∧ W.frozen? ⟨n, 3, none⟩ = false ∧ W.frozen? ⟨n, 4, none⟩ = false ∧ Below n w W) (v : Value) : (W.setCell ⟨n, 3, none⟩ v).cell? ⟨n, 0, none⟩ = some (a0) ∧ (W.setCell ⟨n, 3, none⟩ v).cell? ⟨n, 1, none⟩ = some (a1) ∧ (W.setCell ⟨n, 3, none⟩ v).cell? ⟨n, 2, none⟩ = some (a2) ∧ (W.setCell ⟨n, 3, none⟩ v).cell? ⟨n, 3, none⟩ = some (v) ∧ (W.setCell ⟨n, 3, none⟩ v).cell? ⟨n, 4, none⟩ = some (a4) ∧ n < (W.setCell ⟨n, 3, none⟩ v).heap.size ∧ (W.setCell ⟨n, 3, none⟩ v).frozen? ⟨n, 0, none⟩ = false ∧ (W.setCell ⟨n, 3, none⟩ v).frozen? ⟨n, 1, none⟩ = false ∧ (W.setCell ⟨n, 3, none⟩ v).frozen? ⟨n, 2, none⟩ = false ∧ (W.setCell ⟨n, 3, none⟩ v).frozen? ⟨n, 3, none⟩ = false ∧ (W.setCell ⟨n, 3, none⟩ v).frozen? ⟨n, 4, none⟩ = false ∧ Below n w (W.setCell ⟨n, 3, none⟩ v) := by
  obtain ⟨c0_0, c0_1, c0_2, c0_3, c0_4, l0, f0_0, f0_1, f0_2, f0_3, f0_4, hB⟩ := h
  refine ⟨?_, ?_, ?_, ?_, ?_, ?_, ?_, ?_, ?_, ?_, ?_, ?_⟩
  all_goals first | (rw [World.cell?_setCell_other _ _ _ _ (by simp; try omega)]; assumption) | exact World.cell?_setCell_same _ _ _ (by assumption) | (rw [World.frozen?_setCell]; assumption) | (simp [World.setCell]; assumption) | exact hB.setCell (by simp; try omega) _
theorem set_pz04 {a0 a1 a2 a3 a4 : Value} {n : Nat} {w W : World} (h : W.cell? ⟨n, 0, none⟩ = some (a0) ∧ W.cell? ⟨n, 1, none⟩ = some (a1) ∧ W.cell? ⟨n, 2, none⟩ = some (a2) ∧ W.cell? ⟨n, 3, none⟩ = some (a3) ∧ W.cell? ⟨n, 4, none⟩ = some (a4) ∧ n < W.heap.size ∧ W.frozen? ⟨n, 0, none⟩ = false ∧ W.frozen? ⟨n, 1, none⟩ = false ∧ W.frozen? ⟨n, 2, none⟩ = false ∧ W.frozen? ⟨n, 3, none⟩ = false ∧ W.frozen? ⟨n, 4, none⟩ = false ∧ Below n w W) (v : Value) : (W.setCell ⟨n, 4, none⟩ v).cell? ⟨n, 0, none⟩ = some (a0) ∧ (W.setCell ⟨n, 4, none⟩ v).cell? ⟨n, 1, none⟩ = some (a1) ∧ (W.setCell ⟨n, 4, none⟩ v).cell? ⟨n, 2, none⟩ = some (a2) ∧ (W.setCell ⟨n, 4, none⟩ v).cell? ⟨n, 3, none⟩ = some (a3) ∧ (W.setCell ⟨n, 4, none⟩ v).cell? ⟨n, 4, none⟩ = some (v) ∧ n < (W.setCell ⟨n, 4, none⟩ v).heap.size ∧ (W.setCell ⟨n, 4, none⟩ v).frozen? ⟨n, 0, none⟩ = false ∧ (W.setCell ⟨n, 4, none⟩ v).frozen? ⟨n, 1, none⟩ = false ∧ (W.setCell ⟨n, 4, none⟩ v).frozen? ⟨n, 2, none⟩ = false ∧ (W.setCell ⟨n, 4, none⟩ v).frozen? ⟨n, 3, none⟩ = false ∧ (W.setCell ⟨n, 4, none⟩ v).frozen? ⟨n, 4, none⟩ = false ∧ Below n w (W.setCell ⟨n, 4, none⟩ v) := by
  obtain ⟨c0_0, c0_1, c0_2, c0_3, c0_4, l0, f0_0, f0_1, f0_2, f0_3, f0_4, hB⟩ := h
  refine ⟨?_, ?_, ?_, ?_, ?_, ?_, ?_, ?_, ?_, ?_, ?_, ?_⟩
  all_goals first | (rw [World.cell?_setCell_other _ _ _ _ (by simp; try omega)]; assumption) | exact World.cell?_setCell_same _ _ _ (by assumption) | (rw [World.frozen?_setCell]; assumption) | (simp [World.setCell]; assumption) | exact hB.setCell (by simp; try omega) _
theorem new_pz (w : World) : let W := w.alloc (.cells #[.string ⟨#[]⟩, .int .u8 0, .int .i64 0, .string ⟨#[]⟩, .string ⟨#[]⟩] 37); let n := w.heap.size; W.cell? ⟨n, 0, none⟩ = some (.string ⟨#[]⟩) ∧ W.cell? ⟨n, 1, none⟩ = some (.int .u8 0) ∧ W.cell? ⟨n, 2, none⟩ = some (.int .i64 0) ∧ W.cell? ⟨n, 3, none⟩ = some (.string ⟨#[]⟩) ∧ W.cell? ⟨n, 4, none⟩ = some (.string ⟨#[]⟩) ∧ n < W.heap.size ∧ W.frozen? ⟨n, 0, none⟩ = false ∧ W.frozen? ⟨n, 1, none⟩ = false ∧ W.frozen? ⟨n, 2, none⟩ = false ∧ W.frozen? ⟨n, 3, none⟩ = false ∧ W.frozen? ⟨n, 4, none⟩ = false ∧ Below n w W := by
  exact ⟨(World.cell?_alloc_at _ _ _ _ rfl).trans rfl, (World.cell?_alloc_at _ _ _ _ rfl).trans rfl, (World.cell?_alloc_at _ _ _ _ rfl).trans rfl, (World.cell?_alloc_at _ _ _ _ rfl).trans rfl, (World.cell?_alloc_at _ _ _ _ rfl).trans rfl, by simp, World.frozen?_alloc_at _ _ _ _ rfl, World.frozen?_alloc_at _ _ _ _ rfl, World.frozen?_alloc_at _ _ _ _ rfl, World.frozen?_alloc_at _ _ _ _ rfl, World.frozen?_alloc_at _ _ _ _ rfl, (Below.refl _ _).alloc (Nat.le_refl _) _⟩
set_option maxRecDepth 100000 in
set_option maxHeartbeats 16000000 in
theorem dparse_any (s : ByteArray) (w : World) (hs : s.size ≤ 900000000) (hI : DpIn w) : Calls Tryd.prog 19 #[.string s] w fun e w' => e = .returned (ofV (dpOf (splitSp s.toList))) ∧ Below w.heap.size w w' := by
  obtain ⟨_, _, _, _, _, ⟨m, hm⟩, _⟩ := id hI.1
  have hmb : 2 < w.heap.size := hI.1.2.1
  have SP := Lib.hid (fun W (h : Below w.heap.size w W) => Tryd.strings_Split s ⟨#[32]⟩ m W (by omega) ((h.cell (p := ⟨2, 0, none⟩) hmb).trans hm) (by decide))
  have hcb := countB_le s
  have hpl := pieces_len s
  have hps := split_pieces s
  have hpz := pieces_le s _ hps
  have OF := Lib.hid (fun A c W (h : Below w.heap.size w W) (hT : TR W A (Lib.splitB ⟨#[32]⟩ 0 (Lib.countB s ⟨#[32]⟩) s)) => dof_any A c _ W (by rw [hpl]; omega) (fun x hx => Nat.le_trans (hpz x hx) (by omega)) hT (hI.below h))
  rw [hps, hpl] at OF
  clear hI hm hmb hpl hps hpz
  generalize Lib.splitB ⟨#[32]⟩ 0 (Lib.countB s ⟨#[32]⟩) s = D at *
  generalize Lib.countB s ⟨#[32]⟩ = k at *
  obtain ⟨x, op, p, v, l, f, hV⟩ := ofV_form (dpOf (splitSp s.toList))
  rw [hV] at OF ⊢
  clear hV
  have S0 := new_pz w
  dsimp only at S0
  go_enter Tryd.func19, Tryd.ntmps19
  go_wp2_with fail
  go_at_call 45
  generalize (w.alloc (.cells #[.string ⟨#[]⟩, .int .u8 0, .int .i64 0, .string ⟨#[]⟩, .string ⟨#[]⟩] 37)) = W at *
  generalize hn : w.heap.size = n at *
  obtain ⟨c0_0, c0_1, c0_2, c0_3, c0_4, l0, f0_0, f0_1, f0_2, f0_3, f0_4, hB⟩ := id S0
  refine (SP.out _ hB).mono ?_
  rintro e1 w1 ⟨rfl, rfl⟩
  have T1 := Lib.hid (TR.new W D 9)
  have S1 := keep_pz S0 ((Below.refl _ _).alloc (Nat.le_refl _) (.cells (D.map Value.string).toArray 9))
  clear S0 SP c0_0 c0_1 c0_2 c0_3 c0_4 l0 f0_0 f0_1 f0_2 f0_3 f0_4 hB
  obtain ⟨c0_0, c0_1, c0_2, c0_3, c0_4, l0, f0_0, f0_1, f0_2, f0_3, f0_4, hB⟩ := id S1
  generalize hW1 : W.alloc (.cells (D.map Value.string).toArray 9) = w1 at *
  generalize W.heap.size = g at *
  clear hW1
  go_wp2_with fail
  go_at_call 24
  refine (OF.out _ _ _ hB T1.out).mono ?_
  rintro e2 w2 ⟨rfl, h⟩
  have S2 := keep_pz S1 h
  clear S1 h T1 OF c0_0 c0_1 c0_2 c0_3 c0_4 l0 f0_0 f0_1 f0_2 f0_3 f0_4 hB
  obtain ⟨c0_0, c0_1, c0_2, c0_3, c0_4, l0, f0_0, f0_1, f0_2, f0_3, f0_4, hB⟩ := id S2
  go_wp2_with fail
  have SF := (set_pz04 (set_pz03 (set_pz02 (set_pz01 (set_pz00 S2 (.string x)) (.int .u8 op)) (.int .i64 p)) (.string v)) (.string l))
  generalize (((((w2).setCell ⟨n, 0, none⟩ (.string x)).setCell ⟨n, 1, none⟩ (.int .u8 op)).setCell ⟨n, 2, none⟩ (.int .i64 p)).setCell ⟨n, 3, none⟩ (.string v)).setCell ⟨n, 4, none⟩ (.string l) = U at *
  clear S2 c0_0 c0_1 c0_2 c0_3 c0_4 l0 f0_0 f0_1 f0_2 f0_3 f0_4 hB
  obtain ⟨c0_0, c0_1, c0_2, c0_3, c0_4, l0, f0_0, f0_1, f0_2, f0_3, f0_4, hB⟩ := id SF
  exact bodyPost_ret (v := .tuple #[.agg #[.string x, .int .u8 op, .int .i64 p, .string v, .string l], .int .i64 f]) (by simp [results, Tryd.results19, go_sem, c0_0, c0_1, c0_2, c0_3, c0_4]) rfl ⟨rfl, by rw [hn]; exact hB⟩
/-- what the loop of the document's Parse knows at k: the pieces laid, where the next one begins -/
def SpAt (s : Bytes) (D : List ByteArray) (a k : Nat) : Prop := splitSp s = D.map (·.toList) ++ splitSp (s.drop a) ∧ (32 : UInt8) ∉ (s.drop a).take (k - a) ∧ a ≤ k ∧ k ≤ s.length ∧ D.length ≤ k
theorem sp_start (s : Bytes) : SpAt s [] 0 0 := ⟨rfl, by simp, Nat.le_refl _, Nat.zero_le _, Nat.zero_le _⟩
theorem drop_seg {s : Bytes} {a k : Nat} (h1 : a ≤ k) (h2 : k < s.length) : s.drop a = (s.drop a).take (k - a) ++ s[k] :: s.drop (k + 1) := by
  have e : s.drop a = (s.drop a).take (k - a) ++ (s.drop a).drop (k - a) := (List.take_append_drop _ _).symm
  rw [List.drop_drop, show a + (k - a) = k by omega, List.drop_eq_getElem_cons h2] at e
  exact e
theorem sp_hit {s : ByteArray} {D : List ByteArray} {a k : Nat} (hk : k < s.size) (hc : s[k] = 32) (h : SpAt s.toList D a k) : SpAt s.toList (D ++ [s.extract a k]) (k + 1) (k + 1) := by
  obtain ⟨h1, h2, h3, h4, h5⟩ := h
  have hl : k < s.toList.length := by rw [size_toList]; exact hk
  have e := drop_seg h3 hl
  rw [toList_get s k hk, hc] at e
  refine ⟨?_, by simp, Nat.le_refl _, by omega, by simp; omega⟩
  rw [h1, List.map_append, List.append_assoc]
  congr 1
  conv => lhs; rw [e]
  rw [split_app _ _ h2]
  simp [toList_extract]
theorem sp_miss {s : ByteArray} {D : List ByteArray} {a k : Nat} (hk : k < s.size) (hc : s[k] ≠ 32) (h : SpAt s.toList D a k) : SpAt s.toList D a (k + 1) := by
  obtain ⟨h1, h2, h3, h4, h5⟩ := h
  have hl : k < s.toList.length := by rw [size_toList]; exact hk
  have e := drop_seg h3 hl
  rw [toList_get s k hk] at e
  refine ⟨h1, ?_, by omega, by omega, by omega⟩
  have e2 : (s.toList.drop a).take (k + 1 - a) = (s.toList.drop a).take (k - a) ++ [s[k]] := by
    conv => lhs; rw [e]
    rw [List.take_append, List.take_of_length_le (by simp; omega)]
    have : k + 1 - a - ((s.toList.drop a).take (k - a)).length = 1 := by simp; omega
    rw [this]; rfl
  rw [e2]
  intro hm
  rcases List.mem_append.1 hm with hm | hm
  · exact h2 hm
  · rw [List.mem_singleton] at hm; exact hc hm.symm
theorem sp_end {s : ByteArray} {D : List ByteArray} {a : Nat} (h : SpAt s.toList D a s.size) : (D ++ [s.extract a s.size]).map (·.toList) = splitSp s.toList := by
  obtain ⟨h1, h2, h3, h4, h5⟩ := h
  rw [List.take_of_length_le (by simp [size_toList])] at h2
  rw [h1, split_one _ h2, List.map_append]
  congr 1
  simp only [List.map_cons, List.map_nil]
  rw [toList_extract, List.take_of_length_le (by simp [size_toList])]
abbrev encS6 : ByteArray → List Value := fun s => [Value.string s]
end Go.Proofs.YtinidiiachedbaaDoor
