/- Builder, RlJoin -/
import Derived.Test.YtnfagaccbkeikaaGreatDoorRichReadsRowG01
import Derived.Test.YtnfagaccbkeikaaGreatDoorRichReadsRowG13
import Derived.Test.YtnfagaccbkeikaaGreatDoorShelf
import Derived.Shelf.Strings.BuilderX
import Derived.Lib.Builder
import Derived.Lib.AppendStr
import Derived.Lib.UnsafeStr
import Derived.Laws.Externs
namespace Go.Proofs.YtnfagaccbkeikaaGreatDoor
section
/- Walks: what strings.Builder does at this dump: copyCheck, WriteByte, WriteString (turned from the shelf's own proofs); String is the shelf's. -/








open Go.RowKit Go.Shelf

theorem sizeBuilder : (Tryz.prog.info? 182).map (·.size) = some 2 := by kernel_rfl
theorem infoByte : (Tryz.prog.info? 5).map (fun i => (i.zero, i.size, i.bytes)) = some (some (.int .u8 0), 1, 1) := by kernel_rfl

set_option maxHeartbeats 1000000 in
set_option maxRecDepth 100000 in
theorem copyCheck_used (b : Nat) (w : World) (h0 : w.cell? ⟨b, 0, none⟩ = some (.pointer (some ⟨b, 0, none⟩))) :
    Calls Tryz.prog 171 #[.pointer (some ⟨b, 0, none⟩)] w fun e w' => e = .returned (.tuple #[]) ∧ w' = w := by
  obtain ⟨j, hj, _⟩ := Option.map_eq_some_iff.1 sizeBuilder
  go_enter Tryz.func171, Tryz.ntmps171
  go_wp2
  rw [Lib.run_neq_ptr_same w _ Tryz.underlying180 hj]
  go_wp2
  go_end0
  exact ⟨rfl, rfl⟩

set_option maxHeartbeats 1000000 in
set_option maxRecDepth 100000 in
theorem copyCheck_fresh (b : Nat) (w : World) (h0 : w.cell? ⟨b, 0, none⟩ = some (.pointer none)) (hsh : w.shape? b = some (182, 2)) (hfz : w.frozen? ⟨b, 0, none⟩ = false) :
    Calls Tryz.prog 171 #[.pointer (some ⟨b, 0, none⟩)] w fun e w' => e = .returned (.tuple #[]) ∧ w' = w.setCell ⟨b, 0, none⟩ (.pointer (some ⟨b, 0, none⟩)) := by
  obtain ⟨j, hj, hjs⟩ := Option.map_eq_some_iff.1 sizeBuilder
  go_enter Tryz.func171, Tryz.ntmps171
  go_wp2
  rw [Lib.run_to_unsafe w ⟨b, 0, none⟩ Tryz.underlying180 Tryz.underlying243 hj (by rw [hjs]; decide) hsh (Nat.zero_lt_succ 1)]
  simp only [Result.andThen]
  rw [Oper.upon_value]
  go_wp2
  rw [run_callFunc_extern Tryz.func194 (by kernel_rfl) (by kernel_rfl) (by kernel_rfl) (e := Extern.AbiNoEscape.same) (by kernel_rfl)]
  rw [Lib.run_noEscape]
  simp only [Result.andThen]
  rw [Oper.upon_value]
  go_wp2
  rw [Lib.run_from_unsafe w ⟨b, 0, none⟩ Tryz.underlying243 Tryz.underlying180 hj hsh (by kernel_rfl)]
  simp only [Result.andThen]
  rw [Oper.upon_value]
  go_wp2
  go_end0
  exact ⟨rfl, rfl⟩

theorem copyCheck_any (B b : Nat) (bs : List Value) (w : World) (h : Lib.IsBuilder 182 5 B b bs w) :
    Calls Tryz.prog 171 #[.pointer (some ⟨b, 0, none⟩)] w fun e w' => e = .returned (.tuple #[]) ∧ (Lib.BuilderAt 182 5 B b (.pointer (some ⟨b, 0, none⟩)) bs w' ∧ Below B w w') := by
  rcases h with h | h
  · refine (copyCheck_fresh b w h.cell0 h.shape h.frozen0).mono ?_
    rintro e w' ⟨rfl, rfl⟩
    exact ⟨rfl, h.used _, (Below.refl B w).setCell (p := ⟨b, 0, none⟩) h.1 _⟩
  · refine (copyCheck_used b w h.cell0).mono ?_
    rintro e w' ⟨rfl, rfl⟩
    exact ⟨rfl, h, Below.refl B _⟩

set_option maxHeartbeats 2000000 in
set_option maxRecDepth 100000 in
theorem writeByte_any (B b : Nat) (bs : List Value) (c : Int) (w : World) (h : Lib.IsBuilder 182 5 B b bs w) (hlen : bs.length + 1 ≤ 140737488355328) (hBw : B ≤ w.heap.size) :
    Calls Tryz.prog 125 #[.pointer (some ⟨b, 0, none⟩), .int .u8 c] w fun e w' => e = .returned .nilIface ∧ (Lib.BuilderAt 182 5 B b (.pointer (some ⟨b, 0, none⟩)) (bs ++ [.int .u8 c]) w' ∧ Below B w w') := by
  obtain ⟨i0, hi, hz0, hz1, hz2⟩ := info_parts infoByte
  go_enter Tryz.func125, Tryz.ntmps125
  go_wp2_with (go_at_call 171; refine (copyCheck_any B b bs _ h).mono ?_)
  rintro e w1 ⟨rfl, h1, hb1⟩
  obtain ⟨hB, v, hbk, hown, hne⟩ := h1
  have c0 : w1.cell? ⟨b, 0, none⟩ = some (.pointer (some ⟨b, 0, none⟩)) := by rw [Lib.cell_of_heap hbk]; rfl
  have c1 : w1.cell? ⟨b, 1, none⟩ = some v := by rw [Lib.cell_of_heap hbk]; rfl
  go_wp2_with (at_builtin; refine wpList_append_own _ rfl _ _ 157 rfl B 5 i0 (.int .u8 0) 1 1 Tryz.underlying157 hi hz0 hz1 hz2 rfl (by decide) _ _ _ rfl (hown.alloc _) ⟨w1.heap.size, 0, none⟩ 1 1 [.int .u8 c] rfl rfl ?c1 ?c2 ?c3 ?c4 ?c5 ?_)
  case c1 =>
    intro j u hj
    match j, hj with
    | 0, hj => simp at hj; subst hj; simp [Addr.add]
  case c2 => intro u hu; simp at hu; subst hu; rfl
  case c3 => unfold maxLen; omega
  case c4 => omega
  case c5 => have := hb1.size; simp; omega
  intro v' w2 hown' hgrow _
  have hlt : b < w1.heap.size := by
    rcases Nat.lt_or_ge b w1.heap.size with h' | h'
    · exact h'
    · simp [Array.getElem?_eq_none h'] at hbk
  have hb2 : w2.heap[b]? = some (.cells #[.pointer (some ⟨b, 0, none⟩), v] 182 (0, 0)) := by
    rw [hgrow.block b (by simp; omega) (fun e => hne e.symm), Lib.alloc_old w1 _ b hlt]
    exact hbk
  have d0 : w2.cell? ⟨b, 0, none⟩ = some (.pointer (some ⟨b, 0, none⟩)) := by rw [Lib.cell_of_heap hb2]; rfl
  have d1 : w2.cell? ⟨b, 1, none⟩ = some v := by rw [Lib.cell_of_heap hb2]; rfl
  have f1 : w2.frozen? ⟨b, 1, none⟩ = false := Lib.frozen_of_heap hb2 1
  obtain ⟨g, cap, rfl⟩ : ∃ g cap, v' = .slice (some ⟨g, 0, none⟩) (bs.length + 1) cap := by
    rcases hown'.2 with ⟨_, h0⟩ | ⟨g, cap, cur, hv, _⟩
    · omega
    · exact ⟨g, cap, hv⟩
  go_wp2
  go_ret
  refine ⟨rfl, ?_, ?_⟩
  · exact Lib.BuilderAt.put (T := 182) (e := 5) hB hb2 (bs' := bs ++ [.int .u8 c]) (by simpa using hown') (by decide)
  · exact ((hb1.alloc (by have := hb1.size; omega) _).grown hgrow (by have := hb1.size; simp; omega) (fun k hk => (hown.lt k hk).1)).setCell (p := ⟨b, 1, none⟩) hB _

set_option maxHeartbeats 2000000 in
set_option maxRecDepth 100000 in
theorem writeString_any (B b : Nat) (bs : List Value) (s : ByteArray) (w : World) (h : Lib.IsBuilder 182 5 B b bs w) (hlen : bs.length + s.size ≤ 140737488355328) (hBw : B ≤ w.heap.size) :
    Calls Tryz.prog 126 #[.pointer (some ⟨b, 0, none⟩), .string s] w fun e w' => e = .returned (.tuple #[.int .i64 s.size, .nilIface]) ∧ (Lib.BuilderAt 182 5 B b (.pointer (some ⟨b, 0, none⟩)) (bs ++ Lib.strCells s) w' ∧ Below B w w') := by
  obtain ⟨i0, hi, hz0, hz1, hz2⟩ := info_parts infoByte
  go_enter Tryz.func126, Tryz.ntmps126
  go_wp2_with (go_at_call 171; refine (copyCheck_any B b bs _ h).mono ?_)
  rintro e w1 ⟨rfl, h1, hb1⟩
  obtain ⟨hB, v, hbk, hown, hne⟩ := h1
  have c0 : w1.cell? ⟨b, 0, none⟩ = some (.pointer (some ⟨b, 0, none⟩)) := by rw [Lib.cell_of_heap hbk]; rfl
  have c1 : w1.cell? ⟨b, 1, none⟩ = some v := by rw [Lib.cell_of_heap hbk]; rfl
  go_wp2_with (at_builtin; refine Lib.wpList_append_own_string _ rfl _ _ 157 9 rfl B 5 i0 Tryz.underlying157 Tryz.underlying9 hi hz0 hz1 hz2 _ _ _ rfl hown s rfl ?c3 ?c4 ?c5 ?_)
  case c3 => unfold maxLen; omega
  case c4 => omega
  case c5 => have := hb1.size; omega
  intro v' w2 hown' hgrow _
  have hlt : b < w1.heap.size := by
    rcases Nat.lt_or_ge b w1.heap.size with h' | h'
    · exact h'
    · simp [Array.getElem?_eq_none h'] at hbk
  have hb2 : w2.heap[b]? = some (.cells #[.pointer (some ⟨b, 0, none⟩), v] 182 (0, 0)) := by
    rw [hgrow.block b hlt (fun e => hne e.symm)]
    exact hbk
  have d0 : w2.cell? ⟨b, 0, none⟩ = some (.pointer (some ⟨b, 0, none⟩)) := by rw [Lib.cell_of_heap hb2]; rfl
  have d1 : w2.cell? ⟨b, 1, none⟩ = some v := by rw [Lib.cell_of_heap hb2]; rfl
  have f1 : w2.frozen? ⟨b, 1, none⟩ = false := Lib.frozen_of_heap hb2 1
  obtain ⟨ao, n', cap, rfl⟩ : ∃ ao n' cap, v' = .slice ao n' cap := by
    rcases hown'.2 with ⟨hv, _⟩ | ⟨g, cap, cur, hv, _⟩
    · exact ⟨_, _, _, hv⟩
    · exact ⟨_, _, _, hv⟩
  go_wp2
  go_ret2
  refine ⟨rfl, ?_, ?_⟩
  · exact Lib.BuilderAt.put (T := 182) (e := 5) hB hb2 (bs' := bs ++ Lib.strCells s) (by simpa [Lib.strCells_length] using hown') (by decide)
  · exact (hb1.grown hgrow (by have := hb1.size; omega) (fun k hk => (hown.lt k hk).1)).setCell (p := ⟨b, 1, none⟩) hB _
end
section
/- Walks: lex.Join: words, put together. -/



open Go.RowKit Go.Shelf

def encStr (s : ByteArray) : List Value := [.string s]
def texts (l : List ByteArray) : List Bytes := l.map (·.toList)

theorem texts_get (l : List ByteArray) (k : Nat) (h : k < l.length) : (texts l)[k]'(by simpa [texts] using h) = l[k].toList := by simp [texts]
theorem cells_of (l : Bytes) (s : ByteArray) : Lib.byteCells l ++ Lib.strCells s = Lib.byteCells (l ++ s.toList) := by
  simp [Lib.byteCells, Lib.strCells, Lib.toList_data]
theorem cells_sp (l : Bytes) : Lib.byteCells l ++ [Value.int .u8 32] = Lib.byteCells (l ++ [32]) := by simp [Lib.byteCells]

/-- one word more -/
theorem join_step (l : List ByteArray) (k : Nat) (h : k < l.length) (sep : Bytes) (hs : sepOf (if k = 0 then none else (texts l)[k - 1]?) l[k].toList = sep) :
    joinS none ((texts l).take (k + 1)) = joinS none ((texts l).take k) ++ sep ++ l[k].toList := by
  have h2 := joinS_take_succ (texts l) k (by simpa [texts] using h)
  rw [texts_get l k h] at h2
  rw [h2, hs]
theorem join_room (l : List ByteArray) (k : Nat) (h : k < l.length) : (joinS none ((texts l).take k)).length + 1 + l[k].size ≤ weigh (texts l) := by
  have h1 := joinS_len ((texts l).take k) none
  have h2 := weigh_take (texts l) (k + 1)
  rw [take_snoc _ _ (by simpa [texts] using h)] at h2
  rw [texts_get l k h] at h2
  simp only [weigh, List.map_append, List.sum_append, List.map_cons, List.map_nil, List.sum_cons, List.sum_nil, size_toList] at *
  omega

set_option maxHeartbeats 1000000 in
theorem join_any (l : List ByteArray) (A : Option Addr) (cap cap2 : Nat) (w : World) (h : Rd encStr 1 w.heap.size A cap l w) (hw : weigh (texts l) ≤ 140737488355328) :
    Calls Tryz.prog 85 #[.slice A l.length cap2] w fun e w' => e = .returned (.string (bs (joinS none (texts l)))) ∧ Below w.heap.size w w' := by
  have hlen := h.len
  go_enter Tryz.func85, Tryz.ntmps85
  go_wp2
  go_loopw [4, 5, 8] (fun _ _ i wr => ∃ k : Nat, k ≤ l.length ∧ i = .int .i64 k ∧ Lib.IsBuilder 182 5 w.heap.size w.heap.size (Lib.byteCells (joinS none ((texts l).take k))) wr ∧ Below w.heap.size w wr)
    (fun _ _ i _ => l.length - (intOf i).toNat)
  case atStart => exact ⟨0, Nat.zero_le _, rfl, Lib.fresh_isBuilder _ _ _, (Below.refl _ _).alloc (Nat.le_refl _) _⟩
  case round =>
    obtain ⟨k, hk, rfl, hI, hB⟩ := hrel
    by_cases hlt : k < l.length
    · obtain ⟨b, off, rfl, hb, hc⟩ := (h.below hB).at1 (f := fun s => .string s) (fun _ => rfl) hlt
      have hstep := Lib.hid (join_step l k hlt)
      have hroom := join_room l k hlt
      have hBs := hB.size
      have hcl : (Lib.byteCells (joinS none ((texts l).take k))).length = (joinS none ((texts l).take k)).length := by simp [Lib.byteCells]
      have hsz : w.heap.size + 1 ≤ wr.heap.size := Nat.lt_of_lt_of_le (Nat.lt_succ_self _) (by rcases hI with g | g <;> exact g.lt)
      by_cases h0 : k ≤ 0
      · have hs := Lib.hid (hstep.out [] (by rw [if_pos (by omega)]; rfl))
        clear hstep
        go_wp2_with (go_at_call 126; refine (writeString_any _ _ _ _ _ hI (by rw [hcl]; omega) (by omega)).mono ?_; rintro e w' ⟨rfl, hI', hb'⟩)
        go_roundw
        case rel => exact ⟨k + 1, by omega, by go_num, .inr (by rw [hs.out, List.append_nil, ← cells_of]; exact hI'), hB.trans hb'⟩
        case measure => simp [intOf]; omega
      · obtain ⟨_, _, ⟨rfl, rfl⟩, _, hc2⟩ := (h.below hB).at1 (f := fun s => .string s) (fun _ => rfl) (show k - 1 < l.length by omega)
        have hk1 : ((k : Int) - 1).toNat = k - 1 := by omega
        have hprev : (if k = 0 then none else (texts l)[k - 1]?) = some l[k - 1].toList := by
          rw [if_neg (by omega), List.getElem?_eq_getElem (by simp [texts]; omega), texts_get l (k - 1) (by omega)]
        have hcase : (l[k].toList = [41] ∨ l[k - 1].toList = [40]) ∨ (l[k].toList ≠ [41] ∧ l[k - 1].toList ≠ [40]) := by
          by_cases g1 : l[k].toList = [41]
          · exact .inl (.inl g1)
          · by_cases g2 : l[k - 1].toList = [40]
            · exact .inl (.inr g2)
            · exact .inr ⟨g1, g2⟩
        rcases hcase with g | ⟨g1, g2⟩
        · have hs := Lib.hid (hstep.out [] (by rw [hprev]; unfold sepOf; rcases g with g | g <;> simp [g]))
          clear hstep hprev
          by_cases g1 : (l[k].toList == [41]) = true
          · clear g
            go_wp2_with (go_at_call 126; refine (writeString_any _ _ _ _ _ hI (by rw [hcl]; omega) (by omega)).mono ?_; rintro e w' ⟨rfl, hI', hb'⟩)
            go_roundw
            case rel => exact ⟨k + 1, by omega, by go_num, .inr (by rw [hs.out, List.append_nil, ← cells_of]; exact hI'), hB.trans hb'⟩
            case measure => simp [intOf]; omega
          · have g3 : (l[k].toList == [41]) = false := by simpa using g1
            have g4 : (l[k - 1].toList == [40]) = true := by rcases g with g | g <;> simp_all
            clear g g1
            go_wp2_with (go_at_call 126; refine (writeString_any _ _ _ _ _ hI (by rw [hcl]; omega) (by omega)).mono ?_; rintro e w' ⟨rfl, hI', hb'⟩)
            go_roundw
            case rel => exact ⟨k + 1, by omega, by go_num, .inr (by rw [hs.out, List.append_nil, ← cells_of]; exact hI'), hB.trans hb'⟩
            case measure => simp [intOf]; omega
        · have hs := Lib.hid (hstep.out [32] (by rw [hprev]; unfold sepOf; simp [g1, g2]))
          clear hstep hprev
          have g3 : (l[k].toList == [41]) = false := by simpa using g1
          have g4 : (l[k - 1].toList == [40]) = false := by simpa using g2
          clear g1 g2
          go_wp2_with (go_at_call 125; refine (writeByte_any _ _ _ _ _ hI (by rw [hcl]; omega) (by omega)).mono ?_; rintro e w' ⟨rfl, hI1, hb1⟩)
          go_wp2_with (go_at_call 126; refine (writeString_any _ _ _ _ _ (.inr hI1) (by rw [List.length_append, hcl]; simp; omega) (by have := hb1.size; omega)).mono ?_; rintro e w' ⟨rfl, hI', hb'⟩)
          go_roundw
          case rel => exact ⟨k + 1, by omega, by go_num, .inr (by rw [hs.out, ← cells_of, ← cells_sp]; exact hI'), (hB.trans hb1).trans hb'⟩
          case measure => simp [intOf]; omega
    · go_wp2_with (go_at_call 127; refine (Tryz.Builder_String_any _ _ _ _ hI hB.size).mono ?_; rintro e w' ⟨rfl, hb'⟩)
      go_ret
      exact ⟨by rw [List.take_of_length_le (by simp [texts]; omega)]; rfl, hB.trans hb'⟩
end
end Go.Proofs.YtnfagaccbkeikaaGreatDoor
