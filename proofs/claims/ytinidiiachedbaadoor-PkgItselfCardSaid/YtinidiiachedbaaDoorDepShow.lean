/- Walks: texts of dependencies; the dependency of a text. -/
import Derived.Test.YtinidiiachedbaaDoorDepOf
namespace Go.Proofs.YtinidiiachedbaaDoor
open Go.RowKit Go.Shelf

/-- what Show hands back -/
def showDV (d : Dp) : Value := if dmayB d = true then .tuple #[.string (bs (dpText d)), .int .i64 0] else .tuple #[.string ⟨#[]⟩, .int .i64 4]
theorem showDV_no {d : Dp} (h : dmayB d = false) : showDV d = .tuple #[.string ⟨#[]⟩, .int .i64 4] := by unfold showDV; rw [h, if_neg (by decide)]
theorem showDV_yes {d : Dp} (h : dmayB d = true) : showDV d = .tuple #[.string (bs (dpText d)), .int .i64 0] := by unfold showDV; rw [h, if_pos rfl]
theorem wordsL_no {d : Dp} (h : dmayB d = false) : wordsL d = [] ∧ codeD d = 4 := by unfold wordsL codeD; rw [h, if_neg (by decide)]; exact ⟨rfl, rfl⟩
theorem wordsL_yes {d : Dp} (h : dmayB d = true) : wordsL d = (dwords d).map bs ∧ codeD d = 0 := by unfold wordsL codeD; rw [h, if_pos rfl]; exact ⟨rfl, rfl⟩
theorem map_bs (l : List Bytes) : (l.map bs).map (fun x : ByteArray => x.data.toList) = l := by
  rw [List.map_map]
  have e : ((fun x : ByteArray => x.data.toList) ∘ bs) = id := by funext x; rfl
  rw [e, List.map_id]
theorem map_bs2 (l : List Bytes) : (l.map bs).map (fun x : ByteArray => x.toList) = l := by
  rw [List.map_map]
  have e : ((fun x : ByteArray => x.toList) ∘ bs) = id := by funext x; exact bs_toList x
  rw [e, List.map_id]
theorem join_words (d : Dp) : (⟨(Lib.join (((dwords d).map bs).map (fun x : ByteArray => x.data.toList)) (⟨#[32]⟩ : ByteArray).data.toList).toArray⟩ : ByteArray) = bs (dpText d) := by
  rw [map_bs]
  show bs (Lib.join (dwords d) [32]) = _
  rw [lib_join]; rfl
set_option maxRecDepth 100000 in
set_option maxHeartbeats 16000000 in
theorem dshow_any (d : Dp) (w : World) (hw : d.wf) (hI : DpIn w) : Calls Tryd.prog 21 #[d.val] w fun e w' => e = .returned (showDV d) ∧ Below w.heap.size w w' := by
  have WD := Lib.hid (fun W (h : Below w.heap.size w W) => dwords_any d W hw (hI.below h))
  have S0 := new_d1 d w
  dsimp only at S0
  clear hI hw
  cases hm : dmayB d with
  | false =>
    have E := wordsL_no hm
    unfold WordsPost at WD
    rw [E.1, E.2] at WD
    rw [showDV_no hm]
    clear E hm
    have JN := Lib.hid (fun a c W => Tryd.strings_Join_none a c ⟨#[32]⟩ W)
    unfold Dp.val
    go_enter Tryd.func21, Tryd.ntmps21
    go_wp2_with fail
    go_at_call 22
    generalize (w.alloc (.cells #[.string (bs d.name), .int .u8 d.op, .int .i64 d.evr.epoch, .string (bs d.evr.ver), .string (bs d.evr.rel)] 37)) = W at *
    generalize hn : w.heap.size = n at *
    obtain ⟨c0_0, c0_1, c0_2, c0_3, c0_4, l0, hB⟩ := id S0
    refine (WD.out _ hB).mono ?_
    rintro e1 w1 ⟨A, c, rfl, hT, hcap, h⟩
    have S1 := keep_d1 S0 h
    clear S0 h c0_0 c0_1 c0_2 c0_3 c0_4 l0 hB
    obtain ⟨c0_0, c0_1, c0_2, c0_3, c0_4, l0, hB⟩ := id S1
    go_wp2_with fail
    go_at_call 47
    refine (JN.out _ _ _).mono ?_
    rintro e2 w2 ⟨rfl, rfl⟩
    go_wp2_with fail
    go_ret2
    exact ⟨rfl, by rw [hn]; exact hB⟩
  | true =>
    have E := wordsL_yes hm
    unfold WordsPost at WD
    rw [E.1, E.2] at WD
    rw [showDV_yes hm]
    have hlen := (dpText_len hm).2
    have JN := Lib.hid (fun b o c W (hc : TR W (some ⟨b, o, none⟩) ((dwords d).map bs)) (hb : b < W.heap.size) (hcc : ((dwords d).map bs).length ≤ c) => Tryd.strings_Join b o c ((dwords d).map bs) ⟨#[32]⟩ W (fun j x hj => by
      obtain ⟨hk, rfl⟩ := List.getElem?_eq_some_iff.1 hj
      obtain ⟨b', o', e, _, h⟩ := hc j hk
      simp only [Option.some.injEq, Addr.mk.injEq, and_true] at e
      obtain ⟨rfl, rfl⟩ := e
      exact h) hb (by rw [List.length_map]; rcases dwords_len d with h | h <;> omega) hcc (by rw [map_bs]; show (Lib.join (dwords d) [32]).length ≤ _; rw [lib_join]; exact Nat.le_trans hlen (by decide)))
    rw [join_words] at JN
    have hne : 0 < ((dwords d).map bs).length := by rw [List.length_map]; rcases dwords_len d with h | h <;> omega
    generalize (dwords d).map bs = L at *
    clear E hm hlen
    unfold Dp.val
    go_enter Tryd.func21, Tryd.ntmps21
    go_wp2_with fail
    go_at_call 22
    generalize (w.alloc (.cells #[.string (bs d.name), .int .u8 d.op, .int .i64 d.evr.epoch, .string (bs d.evr.ver), .string (bs d.evr.rel)] 37)) = W at *
    generalize hn : w.heap.size = n at *
    obtain ⟨c0_0, c0_1, c0_2, c0_3, c0_4, l0, hB⟩ := id S0
    refine (WD.out _ hB).mono ?_
    rintro e1 w1 ⟨A, c, rfl, hT, hcap, h⟩
    have S1 := keep_d1 S0 h
    clear S0 h c0_0 c0_1 c0_2 c0_3 c0_4 l0 hB
    obtain ⟨c0_0, c0_1, c0_2, c0_3, c0_4, l0, hB⟩ := id S1
    obtain ⟨b, o, rfl, hbl, hx⟩ := hT 0 hne
    have HJ := Lib.hid (JN.out b o c w1 hT hbl hcap)
    clear JN hT hcap hx WD hne
    generalize L.length = m at *
    go_wp2_with fail
    go_at_call 47
    refine HJ.out.mono ?_
    rintro e2 w2 ⟨rfl, h⟩
    have S2 := keep_d1 S1 h
    go_wp2_with fail
    go_ret2
    exact ⟨rfl, by rw [hn]; exact tail_d1 S2⟩
theorem dwords_two (d : Dp) : (∃ x, dwords d = [x]) ∨ ∃ x y z, dwords d = [x, y, z] := by
  unfold dwords
  split
  · exact .inl ⟨_, rfl⟩
  · exact .inr ⟨_, _, _, rfl⟩
end Go.Proofs.YtinidiiachedbaaDoor
