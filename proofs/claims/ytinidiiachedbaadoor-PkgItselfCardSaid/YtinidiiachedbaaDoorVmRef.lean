/- Walks: the document's answer for vercmp. -/
import Derived.Test.YtinidiiachedbaaDoorVmComp
import Derived.RegionTactic
import Derived.ChangeAlike
namespace Go.Proofs.YtinidiiachedbaaDoor
open Go.RowKit Go.Shelf

/-- of what stands at k on, the next m bytes are of the run, and what is of it behind these is of it all -/
def Up (p : UInt8 → Bool) (s : ByteArray) (k m : Nat) : Prop := (s.toList.drop k).takeWhile p = (s.toList.drop k).take m ++ (s.toList.drop (k + m)).takeWhile p
def Dn (p : UInt8 → Bool) (s : ByteArray) (k m : Nat) : Prop := (s.toList.drop k).takeWhile p = (s.toList.drop k).take m
theorem Up.next {p : UInt8 → Bool} {s : ByteArray} {k m : Nat} (h : Up p s k m) (hlt : k + m < s.size) : (p s[k + m] = true → Up p s k (m + 1)) ∧ (p s[k + m] = false → Dn p s k m) := by
  unfold Up at h
  rw [toList_drop s (k + m) hlt] at h
  constructor
  · intro g
    unfold Up
    rw [List.takeWhile_cons_of_pos g] at h
    rw [h, take_snoc _ m (by rw [List.length_drop, size_toList]; omega)]
    rw [List.getElem_drop, toList_get s (k + m) hlt, List.append_assoc, List.singleton_append]; rfl
  · intro g
    rw [List.takeWhile_cons_of_neg (by simp [g]), List.append_nil] at h
    exact h
theorem Up.last {p : UInt8 → Bool} {s : ByteArray} {k m : Nat} (h : Up p s k m) (hm : k + m = s.size) : Dn p s k m := by
  unfold Up at h
  rw [List.drop_of_length_le (i := k + m) (by rw [size_toList]; omega)] at h
  simpa [Dn] using h
theorem Dn.rest {p : UInt8 → Bool} {s : ByteArray} {k m : Nat} (h : Dn p s k m) (hm : k + m ≤ s.size) : (s.toList.drop k).dropWhile p = s.toList.drop (k + m) := by
  have h1 := List.takeWhile_append_dropWhile (p := p) (l := s.toList.drop k)
  have h2 : (s.toList.drop k).dropWhile p = (s.toList.drop k).drop ((s.toList.drop k).takeWhile p).length := by
    have h3 : ∀ (a b c : Bytes), a ++ b = c → b = c.drop a.length := by
      intro a b c e
      rw [← e, List.drop_left]
    exact h3 _ _ _ h1
  rw [h2, h, List.length_take, List.length_drop, size_toList, List.drop_drop, Nat.min_eq_left (by omega)]
theorem like_self (c : UInt8) : like c c = true := by simp [like]
theorem pts_run_at {s : ByteArray} {k m : Nat} (hlt : k < s.size) (h4 : 4 ≤ kk s[k]) (h : Dn (like s[k]) s k m) (hm : k + m ≤ s.size) : pts (s.toList.drop k) = strip (kk s[k], (s.toList.drop k).take m) :: pts (s.toList.drop (k + m)) := by
  have hr := h.rest hm
  unfold Dn at h
  rw [toList_drop s k hlt] at h hr ⊢
  rw [pts_run _ h4, ← h, ← hr]
  simp [like_self]
theorem infoRPart : (Tryd.prog.info? 107).map (fun i => (i.zero, i.size, i.bytes)) = some (some (.agg #[.int .u8 0, .string ByteArray.empty]), 2, 24) := by kernel_rfl

theorem zcut_on {s : ByteArray} {k m j : Nat} (hj : j < k + m) (hm : k + m ≤ s.size) (hb : s[j] = 48) (h : zcut ((s.toList.drop k).take m) = zcut ((s.toList.drop j).take (k + m - j))) :
    zcut ((s.toList.drop k).take m) = zcut ((s.toList.drop (j + 1)).take (k + m - (j + 1))) := by
  rw [h, toList_drop s j (by omega), show k + m - j = (k + m - (j + 1)) + 1 by omega, List.take_succ_cons, hb]
  simp [zcut]
theorem zcut_off {s : ByteArray} {k m j : Nat} (hj : j < k + m) (hm : k + m ≤ s.size) (hb : ¬ s[j] = 48) (h : zcut ((s.toList.drop k).take m) = zcut ((s.toList.drop j).take (k + m - j))) :
    s.extract j (k + m) = bs (zcut ((s.toList.drop k).take m)) := by
  rw [h, bs_extract]
  congr 1
  rw [toList_drop s j (by omega), show k + m - j = (k + m - (j + 1)) + 1 by omega, List.take_succ_cons]
  have hb2 : (s[j] == 48) = false := by simpa using hb
  simp only [zcut, List.dropWhile_cons, hb2, Bool.false_eq_true, if_false]
theorem zcut_out {s : ByteArray} {k m : Nat} (h : zcut ((s.toList.drop k).take m) = zcut ((s.toList.drop (k + m)).take (k + m - (k + m)))) :
    s.extract (k + m) (k + m) = bs (zcut ((s.toList.drop k).take m)) := by
  rw [h, bs_extract, Nat.sub_self, List.take_zero]; rfl
theorem zcut_out0 {s : ByteArray} {k m : Nat} (h : zcut ((s.toList.drop k).take m) = zcut ((s.toList.drop (k + m)).take (k + m - (k + m)))) : zcut ((s.toList.drop k).take m) = [] := by
  rw [h, Nat.sub_self, List.take_zero]; rfl
theorem word_cut {s : ByteArray} {k m : Nat} : s.extract k (k + m) = bs ((s.toList.drop k).take m) := by
  rw [bs_extract, Nat.add_sub_cancel_left]
theorem run4 {s : ByteArray} {k m : Nat} (hlt : k < s.size) (g : kk s[k] = 4) (h : Dn (like s[k]) s k m) (hm : k + m ≤ s.size) : pts (s.toList.drop k) = (4, (s.toList.drop k).take m) :: pts (s.toList.drop (k + m)) := by
  rw [pts_run_at hlt (by omega) h hm]; simp [strip, g]
theorem run5 {s : ByteArray} {k m : Nat} (hlt : k < s.size) (g : kk s[k] = 5) (h : Dn (like s[k]) s k m) (hm : k + m ≤ s.size) : pts (s.toList.drop k) = (5, zcut ((s.toList.drop k).take m)) :: pts (s.toList.drop (k + m)) := by
  rw [pts_run_at hlt (by omega) h hm]; simp [strip, g, zcut]

set_option maxRecDepth 100000 in
set_option maxHeartbeats 2000000 in
theorem rparts_any (s : ByteArray) (w : World) (hs : s.size ≤ 1000000000) : Calls Tryd.prog 71 #[.string s] w fun e w' =>
    ∃ v, e = .returned v ∧ Own encP 2 w.heap.size 107 v (pts s.toList) w' ∧ Below w.heap.size w w' := by
  obtain ⟨i0, hi, hz0, hz1, hz2⟩ := info_parts infoRPart
  go_enter Tryd.func71, Tryd.ntmps71
  go_wp2
  go_loopw [3, 4] (fun v i wr => ∃ (k : Nat) (pre : List Prt), k ≤ s.size ∧ i = .int .i64 k ∧ RowKit.Hid (pts s.toList = pre ++ pts (s.toList.drop k)) ∧ pre.length ≤ k ∧ Own encP 2 w.heap.size 107 v pre wr ∧ Below w.heap.size w wr)
    (fun _ i _ => s.size - (intOf i).toNat)
  case atStart => exact ⟨0, [], Nat.zero_le _, rfl, Lib.hid (by simp), by simp, Own.nil_ _ _ _, Below.refl _ _⟩
  case round =>
    obtain ⟨k, pre, hk, rfl, hp, hpl, hrow, hB⟩ := hrel
    have hBs := hB.size
    rename World => w0
    by_cases hlt : k < s.size
    · have hdr := Lib.hid (toList_drop s k hlt)
      rcases kk_cases s[k] with g | g | g | g
      · have hk0 : kd (s[k].toNat : Int) = 0 := g
        go_wp2_with (go_at_call 109; refine (rkind_any _ _).mono ?_; rintro e w' ⟨rfl, rfl⟩)
        go_roundw
        case rel => exact ⟨k + 1, pre, by omega, by go_num, Lib.hid (by rw [hp.out, hdr.out, pts_zero _ g]), by omega, hrow, hB⟩
        case measure => simp [intOf]; omega
      · have hk0 : ((kd (s[k].toNat : Int)) == 0) = false := by have := g.1; simp only [kk] at this; simpa using this
        have hk00 : ¬ kd (s[k].toNat : Int) = 0 := by have := g.1; simp only [kk] at this; exact this
        have hk4 : kd (s[k].toNat : Int) < 4 := by have := g.2; simp only [kk] at this; exact this
        go_wp2_with (first | (go_at_call 109; refine (rkind_any _ _).mono ?_; rintro e w' ⟨rfl, rfl⟩) | (at_builtin; refine wpList_append_own _ rfl _ _ 104 rfl w.heap.size 107 i0 (.agg #[.int .u8 0, .string ByteArray.empty]) 2 24 Tryd.underlying104 hi hz0 hz1 hz2 rfl (by decide) _ _ _ rfl (World.ownsRow.alloc hrow _) ⟨w0.heap.size, 0, none⟩ 1 1 [.int .u8 (kd (s[k].toNat : Int)), .string (⟨#[]⟩)] rfl rfl (cell_two_new _ _ _ _) (by simp [Value.oneCell']) (by simp only [maxLen]; omega) (by omega) (by simp; omega) ?_; intro v' w5 hown hgrow _))
        have hB5 : Below w.heap.size w w5 := (hB.alloc hBs _).grown hgrow (by simp; omega) (fun k e => (World.ownsRow.lt hrow k e).1)
        have hO : Own encP 2 w.heap.size 107 v' (pre ++ [(kk s[k], [])]) w5 := Own.snoc (x := (kk s[k], [])) (by exact hown)
        go_wp2
        go_roundw
        case rel => exact ⟨k + 1, pre ++ [(kk s[k], [])], by omega, by go_num, Lib.hid (by rw [hp.out, hdr.out, pts_one _ g.1 g.2, List.append_assoc]; rfl), by simp; omega, hO, hB5⟩
        case measure => simp [intOf]; omega
      · have hk0 : kd (s[k].toNat : Int) = 4 := g
        go_wp2_with (go_at_call 109; refine (rkind_any _ _).mono ?_; rintro e w' ⟨rfl, rfl⟩)
        go_loop [6] (fun e => ∃ m : Nat, k + m ≤ s.size ∧ e = .int .i64 ((k + m : Nat) : Int) ∧ Up (like s[k]) s k m ∧ (m = 0 → True)) (fun e => s.size - (intOf e).toNat)
        case atStart => exact ⟨0, by omega, by go_num, by unfold Up; simp, fun _ => trivial⟩
        case round =>
          obtain ⟨m, hm, rfl, hup, _⟩ := hrel
          by_cases hlt2 : k + m < s.size
          · have hup2 := Up.next hup hlt2
            by_cases hin : kd (s[k + m].toNat : Int) = 4
            · have H2 := Lib.hid (hup2.1 (like_yes g hin))
              clear hup hup2
              go_wp2_with (go_at_call 109; refine (rkind_any _ _).mono ?_; rintro e w' ⟨rfl, rfl⟩)
              go_round
              case rel => exact ⟨m + 1, by omega, by go_num, H2.out, fun _ => trivial⟩
              case measure => simp [intOf]; omega
            · have H2 := Lib.hid (hup2.2 (like_no g hin))
              have hin2 : (kd (s[k + m].toNat : Int) == 4) = false := by simpa using hin
              have hm0 : 0 < m := by
                rcases Nat.eq_zero_or_pos m with h | h
                · subst h; exact absurd hk0 hin
                · exact h
              clear hup hup2 hin
              go_wp2_with (go_at_call 109; refine (rkind_any _ _).mono ?_; rintro e w' ⟨rfl, rfl⟩)
              go_loop [4] (fun e => e = .int .i64 (k : Int)) (fun e => s.size - (intOf e).toNat)
              case atStart => go_num
              case round =>
                obtain rfl := hrel
                go_wp2_with (at_builtin; refine wpList_append_own _ rfl _ _ 104 rfl w.heap.size 107 i0 (.agg #[.int .u8 0, .string ByteArray.empty]) 2 24 Tryd.underlying104 hi hz0 hz1 hz2 rfl (by decide) _ _ _ rfl (World.ownsRow.alloc hrow _) ⟨w0.heap.size, 0, none⟩ 1 1 [.int .u8 (4), .string (s.extract k (k + m))] rfl rfl (cell_two_new _ _ _ _) (by simp [Value.oneCell']) (by simp only [maxLen]; omega) (by omega) (by simp; omega) ?_; intro v' w5 hown hgrow _)
                have hB5 : Below w.heap.size w w5 := (hB.alloc hBs _).grown hgrow (by simp; omega) (fun k e => (World.ownsRow.lt hrow k e).1)
                have hO : Own encP 2 w.heap.size 107 v' (pre ++ [(4, (s.toList.drop k).take m)]) w5 := Own.snoc (x := (4, (s.toList.drop k).take m)) (by rw [word_cut] at hown; exact hown)
                go_wp2
                go_roundw
                case rel => exact ⟨k + m, pre ++ [(4, (s.toList.drop k).take m)], by omega, by go_num, Lib.hid (by rw [hp.out, run4 hlt g H2.out hm, List.append_assoc]; rfl), by simp; omega, hO, hB5⟩
                case measure => simp [intOf]; omega
          · have H2 := Lib.hid (Up.last hup (by omega))
            have hgd : decide ((k : Int) + (m : Int) < (s.size : Int)) = false := decide_eq_false (by omega)
            clear hup
            go_wp2
            go_loop [4] (fun e => e = .int .i64 (k : Int)) (fun e => s.size - (intOf e).toNat)
            case atStart => go_num
            case round =>
              obtain rfl := hrel
              go_wp2_with (at_builtin; refine wpList_append_own _ rfl _ _ 104 rfl w.heap.size 107 i0 (.agg #[.int .u8 0, .string ByteArray.empty]) 2 24 Tryd.underlying104 hi hz0 hz1 hz2 rfl (by decide) _ _ _ rfl (World.ownsRow.alloc hrow _) ⟨w0.heap.size, 0, none⟩ 1 1 [.int .u8 (4), .string (s.extract k (k + m))] rfl rfl (cell_two_new _ _ _ _) (by simp [Value.oneCell']) (by simp only [maxLen]; omega) (by omega) (by simp; omega) ?_; intro v' w5 hown hgrow _)
              have hB5 : Below w.heap.size w w5 := (hB.alloc hBs _).grown hgrow (by simp; omega) (fun k e => (World.ownsRow.lt hrow k e).1)
              have hO : Own encP 2 w.heap.size 107 v' (pre ++ [(4, (s.toList.drop k).take m)]) w5 := Own.snoc (x := (4, (s.toList.drop k).take m)) (by rw [word_cut] at hown; exact hown)
              go_wp2
              go_roundw
              case rel => exact ⟨k + m, pre ++ [(4, (s.toList.drop k).take m)], by omega, by go_num, Lib.hid (by rw [hp.out, run4 hlt g H2.out hm, List.append_assoc]; rfl), by simp; omega, hO, hB5⟩
              case measure => simp [intOf]; omega
      · have hk0 : kd (s[k].toNat : Int) = 5 := g
        go_wp2_with (go_at_call 109; refine (rkind_any _ _).mono ?_; rintro e w' ⟨rfl, rfl⟩)
        go_loop [6] (fun e => ∃ m : Nat, k + m ≤ s.size ∧ e = .int .i64 ((k + m : Nat) : Int) ∧ Up (like s[k]) s k m ∧ (m = 0 → True)) (fun e => s.size - (intOf e).toNat)
        case atStart => exact ⟨0, by omega, by go_num, by unfold Up; simp, fun _ => trivial⟩
        case round =>
          obtain ⟨m, hm, rfl, hup, _⟩ := hrel
          by_cases hlt2 : k + m < s.size
          · have hup2 := Up.next hup hlt2
            by_cases hin : kd (s[k + m].toNat : Int) = 5
            · have H2 := Lib.hid (hup2.1 (like_yes g hin))
              clear hup hup2
              go_wp2_with (go_at_call 109; refine (rkind_any _ _).mono ?_; rintro e w' ⟨rfl, rfl⟩)
              go_round
              case rel => exact ⟨m + 1, by omega, by go_num, H2.out, fun _ => trivial⟩
              case measure => simp [intOf]; omega
            · have H2 := Lib.hid (hup2.2 (like_no g hin))
              have hin2 : (kd (s[k + m].toNat : Int) == 5) = false := by simpa using hin
              have hm0 : 0 < m := by
                rcases Nat.eq_zero_or_pos m with h | h
                · subst h; exact absurd hk0 hin
                · exact h
              clear hup hup2 hin
              go_wp2_with (go_at_call 109; refine (rkind_any _ _).mono ?_; rintro e w' ⟨rfl, rfl⟩)
              go_loop [4] (fun e => ∃ j : Nat, k ≤ j ∧ j ≤ k + m ∧ e = .int .i64 (j : Int) ∧ RowKit.Hid (zcut ((s.toList.drop k).take m) = zcut ((s.toList.drop j).take (k + m - j)))) (fun e => s.size - (intOf e).toNat)
              case atStart => exact ⟨k, by omega, by omega, rfl, Lib.hid (by rw [Nat.add_sub_cancel_left])⟩
              case round =>
                obtain ⟨j, hj1, hj2, rfl, hz⟩ := hrel
                by_cases hlt3 : j < k + m
                · by_cases hb : s[j] = 48
                  · have h48 : ((s[j].toNat : Int) == 48) = true := by rw [hb]; rfl
                    have hzz := Lib.hid (zcut_on hlt3 hm hb hz.out)
                    clear hb
                    go_wp2
                    go_round
                    case rel => exact ⟨j + 1, by omega, by omega, by go_num, hzz⟩
                    case measure => simp [intOf]; omega
                  · have h48 : ((s[j].toNat : Int) == 48) = false := (show ((s[j].toNat : Int) == 48) = (s[j] == 48) from beq_toNat s[j] 48 (by omega)).trans (by simpa using hb)
                    have hzz := Lib.hid (zcut_off hlt3 hm hb hz.out)
                    clear hb
                    go_wp2_with (at_builtin; refine wpList_append_own _ rfl _ _ 104 rfl w.heap.size 107 i0 (.agg #[.int .u8 0, .string ByteArray.empty]) 2 24 Tryd.underlying104 hi hz0 hz1 hz2 rfl (by decide) _ _ _ rfl (World.ownsRow.alloc hrow _) ⟨w0.heap.size, 0, none⟩ 1 1 [.int .u8 (5), .string (s.extract j (k + m))] rfl rfl (cell_two_new _ _ _ _) (by simp [Value.oneCell']) (by simp only [maxLen]; omega) (by omega) (by simp; omega) ?_; intro v' w5 hown hgrow _)
                    have hB5 : Below w.heap.size w w5 := (hB.alloc hBs _).grown hgrow (by simp; omega) (fun k e => (World.ownsRow.lt hrow k e).1)
                    have hO : Own encP 2 w.heap.size 107 v' (pre ++ [(5, zcut ((s.toList.drop k).take m))]) w5 := Own.snoc (x := (5, zcut ((s.toList.drop k).take m))) (by rw [hzz.out] at hown; exact hown)
                    go_wp2
                    go_roundw
                    case rel => exact ⟨k + m, pre ++ [(5, zcut ((s.toList.drop k).take m))], by omega, by go_num, Lib.hid (by rw [hp.out, run5 hlt g H2.out hm, List.append_assoc]; rfl), by simp; omega, hO, hB5⟩
                    case measure => simp [intOf]; omega
                · obtain rfl : j = k + m := by omega
                  have hzz := Lib.hid (zcut_out0 hz.out)
                  go_wp2_with (at_builtin; refine wpList_append_own _ rfl _ _ 104 rfl w.heap.size 107 i0 (.agg #[.int .u8 0, .string ByteArray.empty]) 2 24 Tryd.underlying104 hi hz0 hz1 hz2 rfl (by decide) _ _ _ rfl (World.ownsRow.alloc hrow _) ⟨w0.heap.size, 0, none⟩ 1 1 [.int .u8 (5), .string (⟨#[]⟩)] rfl rfl (cell_two_new _ _ _ _) (by simp [Value.oneCell']) (by simp only [maxLen]; omega) (by omega) (by simp; omega) ?_; intro v' w5 hown hgrow _)
                  have hB5 : Below w.heap.size w w5 := (hB.alloc hBs _).grown hgrow (by simp; omega) (fun k e => (World.ownsRow.lt hrow k e).1)
                  have hO : Own encP 2 w.heap.size 107 v' (pre ++ [(5, zcut ((s.toList.drop k).take m))]) w5 := Own.snoc (x := (5, zcut ((s.toList.drop k).take m))) (by rw [hzz.out]; exact hown)
                  go_wp2
                  go_roundw
                  case rel => exact ⟨k + m, pre ++ [(5, zcut ((s.toList.drop k).take m))], by omega, by go_num, Lib.hid (by rw [hp.out, run5 hlt g H2.out hm, List.append_assoc]; rfl), by simp; omega, hO, hB5⟩
                  case measure => simp [intOf]; omega
          · have H2 := Lib.hid (Up.last hup (by omega))
            have hgd : decide ((k : Int) + (m : Int) < (s.size : Int)) = false := decide_eq_false (by omega)
            clear hup
            go_wp2
            go_loop [4] (fun e => ∃ j : Nat, k ≤ j ∧ j ≤ k + m ∧ e = .int .i64 (j : Int) ∧ RowKit.Hid (zcut ((s.toList.drop k).take m) = zcut ((s.toList.drop j).take (k + m - j)))) (fun e => s.size - (intOf e).toNat)
            case atStart => exact ⟨k, by omega, by omega, rfl, Lib.hid (by rw [Nat.add_sub_cancel_left])⟩
            case round =>
              obtain ⟨j, hj1, hj2, rfl, hz⟩ := hrel
              by_cases hlt3 : j < k + m
              · by_cases hb : s[j] = 48
                · have h48 : ((s[j].toNat : Int) == 48) = true := by rw [hb]; rfl
                  have hzz := Lib.hid (zcut_on hlt3 hm hb hz.out)
                  clear hb
                  go_wp2
                  go_round
                  case rel => exact ⟨j + 1, by omega, by omega, by go_num, hzz⟩
                  case measure => simp [intOf]; omega
                · have h48 : ((s[j].toNat : Int) == 48) = false := (show ((s[j].toNat : Int) == 48) = (s[j] == 48) from beq_toNat s[j] 48 (by omega)).trans (by simpa using hb)
                  have hzz := Lib.hid (zcut_off hlt3 hm hb hz.out)
                  clear hb
                  go_wp2_with (at_builtin; refine wpList_append_own _ rfl _ _ 104 rfl w.heap.size 107 i0 (.agg #[.int .u8 0, .string ByteArray.empty]) 2 24 Tryd.underlying104 hi hz0 hz1 hz2 rfl (by decide) _ _ _ rfl (World.ownsRow.alloc hrow _) ⟨w0.heap.size, 0, none⟩ 1 1 [.int .u8 (5), .string (s.extract j (k + m))] rfl rfl (cell_two_new _ _ _ _) (by simp [Value.oneCell']) (by simp only [maxLen]; omega) (by omega) (by simp; omega) ?_; intro v' w5 hown hgrow _)
                  have hB5 : Below w.heap.size w w5 := (hB.alloc hBs _).grown hgrow (by simp; omega) (fun k e => (World.ownsRow.lt hrow k e).1)
                  have hO : Own encP 2 w.heap.size 107 v' (pre ++ [(5, zcut ((s.toList.drop k).take m))]) w5 := Own.snoc (x := (5, zcut ((s.toList.drop k).take m))) (by rw [hzz.out] at hown; exact hown)
                  go_wp2
                  go_roundw
                  case rel => exact ⟨k + m, pre ++ [(5, zcut ((s.toList.drop k).take m))], by omega, by go_num, Lib.hid (by rw [hp.out, run5 hlt g H2.out hm, List.append_assoc]; rfl), by simp; omega, hO, hB5⟩
                  case measure => simp [intOf]; omega
              · obtain rfl : j = k + m := by omega
                have hzz := Lib.hid (zcut_out0 hz.out)
                go_wp2_with (at_builtin; refine wpList_append_own _ rfl _ _ 104 rfl w.heap.size 107 i0 (.agg #[.int .u8 0, .string ByteArray.empty]) 2 24 Tryd.underlying104 hi hz0 hz1 hz2 rfl (by decide) _ _ _ rfl (World.ownsRow.alloc hrow _) ⟨w0.heap.size, 0, none⟩ 1 1 [.int .u8 (5), .string (⟨#[]⟩)] rfl rfl (cell_two_new _ _ _ _) (by simp [Value.oneCell']) (by simp only [maxLen]; omega) (by omega) (by simp; omega) ?_; intro v' w5 hown hgrow _)
                have hB5 : Below w.heap.size w w5 := (hB.alloc hBs _).grown hgrow (by simp; omega) (fun k e => (World.ownsRow.lt hrow k e).1)
                have hO : Own encP 2 w.heap.size 107 v' (pre ++ [(5, zcut ((s.toList.drop k).take m))]) w5 := Own.snoc (x := (5, zcut ((s.toList.drop k).take m))) (by rw [hzz.out]; exact hown)
                go_wp2
                go_roundw
                case rel => exact ⟨k + m, pre ++ [(5, zcut ((s.toList.drop k).take m))], by omega, by go_num, Lib.hid (by rw [hp.out, run5 hlt g H2.out hm, List.append_assoc]; rfl), by simp; omega, hO, hB5⟩
                case measure => simp [intOf]; omega
    · obtain rfl : k = s.size := by omega
      have hpe : pts s.toList = pre := by rw [hp.out, List.drop_of_length_le (by rw [size_toList]; omega)]; simp [pts_nil]
      have hpe2 := Lib.hid hpe
      clear hpe
      go_wp2
      go_ret
      exact ⟨_, rfl, by rw [hpe2.out]; exact hrow, hB⟩
end Go.Proofs.YtinidiiachedbaaDoor
