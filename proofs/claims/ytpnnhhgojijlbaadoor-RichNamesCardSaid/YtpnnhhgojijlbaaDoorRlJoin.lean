/- Walks: lex.Join: words, put together. -/
import Derived.Test.YtpnnhhgojijlbaaDoorRlIter
import Derived.Test.YtpnnhhgojijlbaaDoorBuilder
namespace Go.Proofs.YtpnnhhgojijlbaaDoor
open Go.RowKit Go.Shelf

def encStr (s : ByteArray) : List Value := [.string s]
def texts (l : List ByteArray) : List Bytes := l.map (·.toList)

theorem texts_get (l : List ByteArray) (k : Nat) (h : k < l.length) : (texts l)[k]'(by simpa [texts] using h) = l[k].toList := by simp [texts]
theorem cells_of (l : Bytes) (s : ByteArray) : Lib.byteCells l ++ Lib.strCells s = Lib.byteCells (l ++ s.toList) := by
  simp [Lib.byteCells, Lib.strCells, Lib.toList_data]
theorem cells_sp (l : Bytes) : Lib.byteCells l ++ [Value.int .u8 32] = Lib.byteCells (l ++ [32]) := by simp [Lib.byteCells]

/-- one word more -/
theorem join_step (l : List ByteArray) (k : Nat) (h : k < l.length) (sep : Bytes) (hs : sepOf (if k = 0 then none else (texts l)[k - 1]?) l[k].toList = sep) :
    joinS none ((texts l).take (k + 1)) = joinS none ((texts l).take k) ++ sep ++ l[k].toList := by
  have h2 := joinS_take_succ (texts l) k (by simpa [texts] using h)
  rw [texts_get l k h] at h2
  rw [h2, hs]
theorem join_room (l : List ByteArray) (k : Nat) (h : k < l.length) : (joinS none ((texts l).take k)).length + 1 + l[k].size ≤ weigh (texts l) := by
  have h1 := joinS_len ((texts l).take k) none
  have h2 := weigh_take (texts l) (k + 1)
  rw [take_snoc _ _ (by simpa [texts] using h)] at h2
  rw [texts_get l k h] at h2
  simp only [weigh, List.map_append, List.sum_append, List.map_cons, List.map_nil, List.sum_cons, List.sum_nil, size_toList] at *
  omega

set_option maxHeartbeats 1000000 in
theorem join_any (l : List ByteArray) (A : Option Addr) (cap cap2 : Nat) (w : World) (h : Rd encStr 1 w.heap.size A cap l w) (hw : weigh (texts l) ≤ 140737488355328) :
    Calls Tryd.prog 28 #[.slice A l.length cap2] w fun e w' => e = .returned (.string (bs (joinS none (texts l)))) ∧ Below w.heap.size w w' := by
  have hlen := h.len
  go_enter Tryd.func28, Tryd.ntmps28
  go_wp2
  go_loopw [4, 5, 8] (fun _ _ i wr => ∃ k : Nat, k ≤ l.length ∧ i = .int .i64 k ∧ Lib.IsBuilder 103 5 w.heap.size w.heap.size (Lib.byteCells (joinS none ((texts l).take k))) wr ∧ Below w.heap.size w wr)
    (fun _ _ i _ => l.length - (intOf i).toNat)
  case atStart => exact ⟨0, Nat.zero_le _, rfl, Lib.fresh_isBuilder _ _ _, (Below.refl _ _).alloc (Nat.le_refl _) _⟩
  case round =>
    obtain ⟨k, hk, rfl, hI, hB⟩ := hrel
    by_cases hlt : k < l.length
    · obtain ⟨b, off, rfl, hb, hc⟩ := (h.below hB).at1 (f := fun s => .string s) (fun _ => rfl) hlt
      have hstep := Lib.hid (join_step l k hlt)
      have hroom := join_room l k hlt
      have hBs := hB.size
      have hcl : (Lib.byteCells (joinS none ((texts l).take k))).length = (joinS none ((texts l).take k)).length := by simp [Lib.byteCells]
      have hsz : w.heap.size + 1 ≤ wr.heap.size := Nat.lt_of_lt_of_le (Nat.lt_succ_self _) (by rcases hI with g | g <;> exact g.lt)
      by_cases h0 : k ≤ 0
      · have hs := Lib.hid (hstep.out [] (by rw [if_pos (by omega)]; rfl))
        clear hstep
        go_wp2_with (go_at_call 55; refine (writeString_any _ _ _ _ _ hI (by rw [hcl]; omega) (by omega)).mono ?_; rintro e w' ⟨rfl, hI', hb'⟩)
        go_roundw
        case rel => exact ⟨k + 1, by omega, by go_num, .inr (by rw [hs.out, List.append_nil, ← cells_of]; exact hI'), hB.trans hb'⟩
        case measure => simp [intOf]; omega
      · obtain ⟨_, _, ⟨rfl, rfl⟩, _, hc2⟩ := (h.below hB).at1 (f := fun s => .string s) (fun _ => rfl) (show k - 1 < l.length by omega)
        have hk1 : ((k : Int) - 1).toNat = k - 1 := by omega
        have hprev : (if k = 0 then none else (texts l)[k - 1]?) = some l[k - 1].toList := by
          rw [if_neg (by omega), List.getElem?_eq_getElem (by simp [texts]; omega), texts_get l (k - 1) (by omega)]
        have hcase : (l[k].toList = [41] ∨ l[k - 1].toList = [40]) ∨ (l[k].toList ≠ [41] ∧ l[k - 1].toList ≠ [40]) := by
          by_cases g1 : l[k].toList = [41]
          · exact .inl (.inl g1)
          · by_cases g2 : l[k - 1].toList = [40]
            · exact .inl (.inr g2)
            · exact .inr ⟨g1, g2⟩
        rcases hcase with g | ⟨g1, g2⟩
        · have hs := Lib.hid (hstep.out [] (by rw [hprev]; unfold sepOf; rcases g with g | g <;> simp [g]))
          clear hstep hprev
          by_cases g1 : (l[k].toList == [41]) = true
          · clear g
            go_wp2_with (go_at_call 55; refine (writeString_any _ _ _ _ _ hI (by rw [hcl]; omega) (by omega)).mono ?_; rintro e w' ⟨rfl, hI', hb'⟩)
            go_roundw
            case rel => exact ⟨k + 1, by omega, by go_num, .inr (by rw [hs.out, List.append_nil, ← cells_of]; exact hI'), hB.trans hb'⟩
            case measure => simp [intOf]; omega
          · have g3 : (l[k].toList == [41]) = false := by simpa using g1
            have g4 : (l[k - 1].toList == [40]) = true := by rcases g with g | g <;> simp_all
            clear g g1
            go_wp2_with (go_at_call 55; refine (writeString_any _ _ _ _ _ hI (by rw [hcl]; omega) (by omega)).mono ?_; rintro e w' ⟨rfl, hI', hb'⟩)
            go_roundw
            case rel => exact ⟨k + 1, by omega, by go_num, .inr (by rw [hs.out, List.append_nil, ← cells_of]; exact hI'), hB.trans hb'⟩
            case measure => simp [intOf]; omega
        · have hs := Lib.hid (hstep.out [32] (by rw [hprev]; unfold sepOf; simp [g1, g2]))
          clear hstep hprev
          have g3 : (l[k].toList == [41]) = false := by simpa using g1
          have g4 : (l[k - 1].toList == [40]) = false := by simpa using g2
          clear g1 g2
          go_wp2_with (go_at_call 54; refine (writeByte_any _ _ _ _ _ hI (by rw [hcl]; omega) (by omega)).mono ?_; rintro e w' ⟨rfl, hI1, hb1⟩)
          go_wp2_with (go_at_call 55; refine (writeString_any _ _ _ _ _ (.inr hI1) (by rw [List.length_append, hcl]; simp; omega) (by have := hb1.size; omega)).mono ?_; rintro e w' ⟨rfl, hI', hb'⟩)
          go_roundw
          case rel => exact ⟨k + 1, by omega, by go_num, .inr (by rw [hs.out, ← cells_of, ← cells_sp]; exact hI'), (hB.trans hb1).trans hb'⟩
          case measure => simp [intOf]; omega
    · go_wp2_with (go_at_call 56; refine (Tryd.Builder_String_any _ _ _ _ hI hB.size).mono ?_; rintro e w' ⟨rfl, hb'⟩)
      go_ret
      exact ⟨by rw [List.take_of_length_le (by simp [texts]; omega)]; rfl, hB.trans hb'⟩
end Go.Proofs.YtpnnhhgojijlbaaDoor
