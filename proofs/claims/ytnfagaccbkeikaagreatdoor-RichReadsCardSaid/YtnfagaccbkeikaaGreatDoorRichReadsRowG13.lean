/- RlW0, RlIter -/
import Derived.Test.YtnfagaccbkeikaaGreatDoorRichReadsRowG11
import Derived.RangeFuncNested
import Derived.RangeFuncBound
import Derived.RangeFuncCalls
import Derived.RangeFuncLeaves
import Derived.RangeFuncBox
import Derived.Shelf.Abstract
import Derived.Shelf.RegionOpen
import Derived.OwnWalkIn
import Derived.TacticsInMore
import Derived.LoopNIn
import Derived.LoopIn
namespace Go.Proofs.YtnfagaccbkeikaaGreatDoor
section
/- Walks: the plain functions of lex and of its statements. -/


open Go.RowKit

set_option maxHeartbeats 400000 in
theorem bracket_any (n : Int) (w : World) :
    Calls Tryz.prog 129 #[.int .u8 n] w fun e w' => e = .returned (.bool (brB n)) ∧ w = w' := by
  go_enter Tryz.func129, Tryz.ntmps129
  go_wp2
  all_goals (go_ret; exact ⟨by simp [brB, *], rfl⟩)
theorem innB_hi {n : Int} (h : 126 < n) : innB n = false := by simp [innB, decide_eq_false (Int.not_le.2 h)]
theorem innB_lo {n : Int} (h : n ≤ 32) : innB n = false := by simp [innB, decide_eq_false (Int.not_lt.2 h)]
set_option maxHeartbeats 400000 in
theorem inner_any (n : Int) (w : World) :
    Calls Tryz.prog 130 #[.int .u8 n] w fun e w' => e = .returned (.bool (innB n)) ∧ w = w' := by
  by_cases h1 : 32 < n
  · by_cases h2 : n ≤ 126
    · go_enter Tryz.func130, Tryz.ntmps130
      go_wp2_with (go_at_call 129; refine (bracket_any _ _).mono ?_; rintro e w' ⟨rfl, rfl⟩)
      go_ret
      exact ⟨by simp [innB, h1, h2], rfl⟩
    · go_enter Tryz.func130, Tryz.ntmps130
      go_wp2
      go_ret
      exact ⟨by rw [innB_hi h2]; rfl, rfl⟩
  · go_enter Tryz.func130, Tryz.ntmps130
    go_wp2
    go_ret
    exact ⟨by rw [innB_lo h1]; rfl, rfl⟩
end
section
/- Walks: the iterator of lex: what it tells its loop, one behind the other. -/













open Go.RowKit Go.Shelf
attribute [local go_sem] Oper.semAt_some


def tokArgs (x : Tok) : Array Value := #[.int .i64 (x.1 : Int), .string (bs x.2)]

/-- behind the word's first byte at k the next m bytes are of it, and what is of it behind these is of it all -/
def UptoX (s : ByteArray) (k m : Nat) : Prop := (s.toList.drop (k + 1)).takeWhile inn = (s.toList.drop (k + 1)).take m ++ (s.toList.drop (k + 1 + m)).takeWhile inn
def DoneX (s : ByteArray) (k m : Nat) : Prop := (s.toList.drop (k + 1)).takeWhile inn = (s.toList.drop (k + 1)).take m
theorem UptoX.next {s : ByteArray} {k m : Nat} (h : UptoX s k m) (hlt : k + 1 + m < s.size) : (innB s[k + 1 + m].toNat = true → UptoX s k (m + 1)) ∧ (innB s[k + 1 + m].toNat = false → DoneX s k m) := by
  unfold UptoX at h
  rw [toList_drop s (k + 1 + m) hlt] at h
  constructor
  · intro g
    have g2 : inn s[k + 1 + m] = true := g
    unfold UptoX
    rw [List.takeWhile_cons_of_pos g2] at h
    rw [h, take_snoc _ m (by rw [List.length_drop, size_toList]; omega)]
    rw [List.getElem_drop, toList_get s (k + 1 + m) hlt, List.append_assoc, List.singleton_append]; rfl
  · intro g
    have g2 : ¬ inn s[k + 1 + m] = true := by unfold inn; simp [g]
    rw [List.takeWhile_cons_of_neg g2, List.append_nil] at h
    exact h
theorem UptoX.last {s : ByteArray} {k m : Nat} (h : UptoX s k m) (hm : k + 1 + m = s.size) : DoneX s k m := by
  unfold UptoX at h
  rw [List.drop_of_length_le (i := k + 1 + m) (by rw [size_toList]; omega)] at h
  simpa [DoneX] using h
theorem DoneX.cut {s : ByteArray} {k m : Nat} (h : DoneX s k m) (hlt : k < s.size) : s.extract k (k + 1 + m) = bs (s[k] :: (s.toList.drop (k + 1)).takeWhile inn) := by
  rw [bs_extract, h, toList_drop s k hlt]
  rw [show k + 1 + m - k = m + 1 from by omega, List.take_succ_cons]
theorem DoneX.len {s : ByteArray} {k m : Nat} (h : DoneX s k m) (hm : k + 1 + m ≤ s.size) : ((s.toList.drop (k + 1)).takeWhile inn).length = m := by
  rw [h, List.length_take, List.length_drop, size_toList]; omega
theorem DoneX.rest {s : ByteArray} {k m : Nat} (h : DoneX s k m) (hm : k + 1 + m ≤ s.size) : (s.toList.drop (k + 1)).dropWhile inn = s.toList.drop (k + 1 + m) := by
  have h1 := List.takeWhile_append_dropWhile (p := inn) (l := s.toList.drop (k + 1))
  have h2 : (s.toList.drop (k + 1)).dropWhile inn = (s.toList.drop (k + 1)).drop ((s.toList.drop (k + 1)).takeWhile inn).length := by
    have h3 : ∀ (a b c : Bytes), a ++ b = c → b = c.drop a.length := by
      intro a b c e
      rw [← e, List.drop_left]
    exact h3 _ _ _ h1
  rw [h2, h.len hm, List.drop_drop]

set_option maxRecDepth 100000 in
set_option maxHeartbeats 2000000 in
theorem all1_in (n : Nat) (l Bs : Nat) (s : ByteArray) (hs : s.size ≤ 9223372036854775807) (J Jx : List Tok → World → Prop)
    (hY : ∀ pre x W, J pre W → pre.length < (toks 0 none s.toList).length → YieldAt Fence.wide (n - 1) Tryz.prog l (tokArgs x) W fun e W' =>
      (e = .returned (.bool true) ∧ J (pre ++ [x]) W' ∧ W'.cell? ⟨Bs, 0, none⟩ = W.cell? ⟨Bs, 0, none⟩) ∨ (e = .returned (.bool false) ∧ Jx (pre ++ [x]) W'))
    (W : World) (hBs : W.cell? ⟨Bs, 0, none⟩ = some (.string s)) (h0 : J [] W) :
    CallsIn Fence.wide n Tryz.prog 128 #[.func (.yield l) #[] #[], .pointer (some ⟨Bs, 0, none⟩)] W fun e W' => (∃ v, e = .returned v) ∧
      ((∃ ys, ys = toks 0 none s.toList ∧ J ys W') ∨ (∃ pre, pre <+: toks 0 none s.toList ∧ Jx pre W')) := by
  refine callsIn_of_wp Tryz.func128 rfl trivial ?_ rfl
  simp only [Tryz.ntmps128, List.size_toArray, List.length_cons, List.length_nil, Nat.reduceAdd, Nat.reduceSub, Array.replicate_succ, Array.replicate_zero, List.push_toArray, List.append_toArray, List.nil_append, List.cons_append]
  gi_wp2
  gi_loopw [3] (fun i wr => ∃ (k : Nat) (pre : List Tok), k ≤ s.size ∧ i = .int .i64 k ∧ toks 0 none s.toList = pre ++ toks k none (s.toList.drop k) ∧ J pre wr ∧ wr.cell? ⟨Bs, 0, none⟩ = some (.string s))
    (fun i _ => s.size - (intOf i).toNat)
  case atStart => exact ⟨0, [], Nat.zero_le _, rfl, by simp, h0, hBs⟩
  case round =>
    obtain ⟨k, pre, hk, rfl, hp, hJs, hc⟩ := hrel
    by_cases hlt : k < s.size
    · have hdr := Lib.hid (toList_drop s k hlt)
      have hp' := Lib.hid hp
      clear hp
      have hb32 : ((s[k].toNat : Int) == 32) = spc s[k] := beq_toNat s[k] 32 (by omega)
      rcases wrong_cases s[k] with g | g | g | g
      · have hno := wrong_no g
        have hsp : ((s[k].toNat : Int) == 32) = false := by rw [hb32]; exact hno.1
        have hbr : brB s[k].toNat = false := hno.2.1
        have hin : innB s[k].toNat = false := hno.2.2
        clear hb32 hno
        obtain ⟨fn, tmps, assign, body, hy, hR⟩ := hY pre (k, []) wr hJs (by rw [hp'.out, hdr.out, toks_wrong g]; simp)
        unfold tokArgs at hy
        dsimp only at hy
        rw [show bs [] = ⟨#[]⟩ from rfl] at hy
        gi_wp2_with (first | (refine ⟨trivial, fun h => absurd h (by decide), ?_⟩; gi_at_call 129; refine (callsIn_wide.2 (bracket_any _ _)).mono ?_; rintro e w' ⟨rfl, rfl⟩) | (refine ⟨trivial, fun h => absurd h (by decide), ?_⟩; gi_at_call 130; refine (callsIn_wide.2 (inner_any _ _)).mono ?_; rintro e w' ⟨rfl, rfl⟩))
        refine ⟨fun h => absurd h (by decide), hR.mono ?_⟩
        rintro e W3 (⟨rfl, hJ3, hk3⟩ | ⟨rfl, hJx3⟩)
        · clear hk3
          gi_wp2
          refine bodyPost_ret (results_none rfl _ _ _) rfl ?_
          exact ⟨⟨_, rfl⟩, .inl ⟨_, by rw [hp'.out, hdr.out, toks_wrong g], hJ3⟩⟩
        · gi_wp2
          refine bodyPost_ret (results_none rfl _ _ _) rfl ?_
          exact ⟨⟨_, rfl⟩, .inr ⟨_, ⟨[], by rw [hp'.out, hdr.out, toks_wrong g, List.append_nil]⟩, hJx3⟩⟩
      · have hsp : ((s[k].toNat : Int) == 32) = true := by rw [hb32]; exact g
        clear hb32
        gi_wp2
        go_roundw
        case rel => exact ⟨k + 1, pre, by omega, by go_num, by rw [hp'.out, hdr.out, toks_spc g], hJs, hc⟩
        case measure => simp [intOf]; omega
      · have hsp : ((s[k].toNat : Int) == 32) = false := by rw [hb32]; exact spc_brk g
        have hbr : brB s[k].toNat = true := g
        have he : s.extract k (k + 1) = bs [s[k]] := by
          rw [bs_extract, hdr.out]; simp
        have hes := Lib.hid he
        clear he hb32
        obtain ⟨fn, tmps, assign, body, hy, hR⟩ := hY pre (k, [s[k]]) wr hJs (by rw [hp'.out, hdr.out, toks_brk g]; simp)
        unfold tokArgs at hy
        dsimp only at hy
        rw [← hes.out] at hy
        gi_wp2_with (first | (refine ⟨trivial, fun h => absurd h (by decide), ?_⟩; gi_at_call 129; refine (callsIn_wide.2 (bracket_any _ _)).mono ?_; rintro e w' ⟨rfl, rfl⟩))
        refine ⟨fun h => absurd h (by decide), hR.mono ?_⟩
        rintro e W3 (⟨rfl, hJ3, hk3⟩ | ⟨rfl, hJx3⟩)
        · have hc3 := hk3.trans hc
          clear hk3
          gi_wp2
          go_roundw
          case rel => exact ⟨k + 1, pre ++ [(k, [s[k]])], by omega, by go_num, by rw [hp'.out, hdr.out, toks_brk g]; simp, hJ3, hc3⟩
          case measure => simp [intOf]; omega
        · gi_wp2
          refine bodyPost_ret (results_none rfl _ _ _) rfl ?_
          exact ⟨⟨_, rfl⟩, .inr ⟨_, ⟨_, by rw [hp'.out, hdr.out, toks_brk g, List.append_assoc]; rfl⟩, hJx3⟩⟩
      · have hsp : ((s[k].toNat : Int) == 32) = false := by rw [hb32]; exact spc_inn g
        have hbr : brB s[k].toNat = false := brk_inn g
        have hin : innB s[k].toNat = true := g
        clear hb32
        gi_wp2_with (first | (refine ⟨trivial, fun h => absurd h (by decide), ?_⟩; gi_at_call 129; refine (callsIn_wide.2 (bracket_any _ _)).mono ?_; rintro e w' ⟨rfl, rfl⟩) | (refine ⟨trivial, fun h => absurd h (by decide), ?_⟩; gi_at_call 130; refine (callsIn_wide.2 (inner_any _ _)).mono ?_; rintro e w' ⟨rfl, rfl⟩))
        gi_loop [4] (fun e => ∃ m : Nat, k + 1 + m ≤ s.size ∧ e = .int .i64 ((k + 1 + m : Nat) : Int) ∧ UptoX s k m) (fun e => s.size - (intOf e).toNat)
        case atStart => exact ⟨0, by omega, by go_num, by unfold UptoX; simp⟩
        case round =>
          obtain ⟨m, hm, rfl, hup⟩ := hrel
          by_cases hlt2 : k + 1 + m < s.size
          · have hup2 := UptoX.next hup hlt2
            cases hin2 : innB s[k + 1 + m].toNat with
            | true =>
              have H2 := Lib.hid (hup2.1 hin2)
              clear hup hup2
              gi_wp2_with (first | (refine ⟨trivial, fun h => absurd h (by decide), ?_⟩; gi_at_call 130; refine (callsIn_wide.2 (inner_any _ _)).mono ?_; rintro e w' ⟨rfl, rfl⟩))
              go_round
              case rel => exact ⟨m + 1, by omega, by go_num, H2.out⟩
              case measure => simp [intOf]; omega
            | false =>
              have H2 := Lib.hid (hup2.2 hin2)
              clear hup hup2
              have he := Lib.hid (DoneX.cut H2.out hlt)
              obtain ⟨fn, tmps, assign, body, hy, hR⟩ := hY pre (k, s[k] :: (s.toList.drop (k + 1)).takeWhile inn) wr hJs (by rw [hp'.out, hdr.out, toks_inn g]; simp)
              unfold tokArgs at hy
              dsimp only at hy
              rw [← he.out] at hy
              gi_wp2_with (first | (refine ⟨trivial, fun h => absurd h (by decide), ?_⟩; gi_at_call 130; refine (callsIn_wide.2 (inner_any _ _)).mono ?_; rintro e w' ⟨rfl, rfl⟩))
              refine ⟨fun h => absurd h (by decide), hR.mono ?_⟩
              rintro e W3 (⟨rfl, hJ3, hk3⟩ | ⟨rfl, hJx3⟩)
              · have hc3 := hk3.trans hc
                clear hk3
                gi_wp2
                go_roundw
                case rel =>
                  exact ⟨k + 1 + m, pre ++ [(k, s[k] :: (s.toList.drop (k + 1)).takeWhile inn)], by omega, by go_num, by
                    rw [hp'.out, hdr.out, toks_inn g, H2.out.len hm, H2.out.rest hm, List.append_assoc]; rfl, hJ3, hc3⟩
                case measure => simp [intOf]; omega
              · gi_wp2
                refine bodyPost_ret (results_none rfl _ _ _) rfl ?_
                exact ⟨⟨_, rfl⟩, .inr ⟨_, ⟨_, by rw [hp'.out, hdr.out, toks_inn g, List.append_assoc]; rfl⟩, hJx3⟩⟩
          · have H2 := Lib.hid (UptoX.last hup (by omega))
            clear hup
            have he := Lib.hid (DoneX.cut H2.out hlt)
            obtain ⟨fn, tmps, assign, body, hy, hR⟩ := hY pre (k, s[k] :: (s.toList.drop (k + 1)).takeWhile inn) wr hJs (by rw [hp'.out, hdr.out, toks_inn g]; simp)
            unfold tokArgs at hy
            dsimp only at hy
            rw [← he.out] at hy
            have hgd : decide ((k : Int) + 1 + (m : Int) < (s.size : Int)) = false := decide_eq_false (by omega)
            gi_wp2
            refine ⟨trivial, ?_⟩
            gi_wp2
            refine ⟨fun h => absurd h (by decide), hR.mono ?_⟩
            rintro e W3 (⟨rfl, hJ3, hk3⟩ | ⟨rfl, hJx3⟩)
            · have hc3 := hk3.trans hc
              clear hk3
              gi_wp2
              go_roundw
              case rel =>
                exact ⟨k + 1 + m, pre ++ [(k, s[k] :: (s.toList.drop (k + 1)).takeWhile inn)], by omega, by go_num, by
                  rw [hp'.out, hdr.out, toks_inn g, H2.out.len hm, H2.out.rest hm, List.append_assoc]; rfl, hJ3, hc3⟩
              case measure => simp [intOf]; omega
            · gi_wp2
              refine bodyPost_ret (results_none rfl _ _ _) rfl ?_
              exact ⟨⟨_, rfl⟩, .inr ⟨_, ⟨_, by rw [hp'.out, hdr.out, toks_inn g, List.append_assoc]; rfl⟩, hJx3⟩⟩
    · obtain rfl : k = s.size := by omega
      gi_wp2
      go_end0
      exact ⟨⟨_, rfl⟩, .inl ⟨_, by rw [hp, List.drop_of_length_le (by rw [size_toList]; omega)]; simp [toks, flushT], hJs⟩⟩
end
end Go.Proofs.YtnfagaccbkeikaaGreatDoor
