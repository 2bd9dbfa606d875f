/- EvRefW -/
import Derived.Test.YtoglbogfoolkaaaGreatDoorRichTellsRowG07
import Derived.Laws.IdiomStrings
import Derived.RegionTactic
import Derived.Deep.QuietTactic
import Derived.BigQuiet
import Derived.ChangeAlike
/- Walks: EVRs by the document: which may be, their texts. -/






namespace Go.Proofs.YtoglbogfoolkaaaGreatDoor
open Go.RowKit Go.Shelf

theorem below_drewN {B : Nat} {w W : World} {n : Nat} (h : Below B w W) : Below B w (W.drewN n) := ⟨h.os, h.tape, h.output, h.size, h.block⟩
theorem itoa_of {p : Int} {u : Nat} (h : p = (u : Int)) : Lib.itoa p = Lib.decDigits u := by
  rw [h]
  unfold Lib.itoa
  rw [if_neg (by omega), Int.toNat_natCast]
theorem conv1r (W : World) (c : UInt8) : (convert 216 9 (.slice (some ⟨W.heap.size, 0, none⟩) 1 1)).run Tryz.prog (W.alloc (.cells #[.int .u8 (c.toNat : Int)] 5)) = .ok (.string (bs [c])) (W.alloc (.cells #[.int .u8 (c.toNat : Int)] 5)) :=
  run_convert_bytes_back _ _ _ 5 _ _ [c] Tryz.underlying216 Tryz.underlying5 Tryz.underlying9 (fun j hj => by
    match j, hj with
    | 0, _ => simp [Addr.add])
set_option maxRecDepth 100000 in
set_option maxHeartbeats 8000000 in
theorem revMay_any (e : Evr) (dep : Bool) (w : World) (hw : e.wf) : Calls Tryz.prog 174 #[e.val, .bool dep] w fun r w' => r = .returned (.bool (mayB e dep)) ∧ Below w.heap.size w w' := by
  have WV := Lib.hid (fun W => rword_any (bs e.ver) W (by rw [bs_size]; exact hw.2.1))
  have WR := Lib.hid (fun W => rword_any (bs e.rel) W (by rw [bs_size]; exact hw.2.2))
  obtain ⟨r, hr⟩ : ∃ r, r = mayB e dep := ⟨_, rfl⟩
  rw [← hr]
  unfold mayB at hr
  rw [bs_toList] at WV WR
  have hx : (bs e.rel).toList = e.rel := bs_toList _
  clear hw
  unfold Evr.val
  obtain ⟨p, v, l⟩ := e
  dsimp only at *
  by_cases h0 : 0 ≤ p
  · have h0' : ¬ p < 0 := by omega
    by_cases h1 : p ≤ 2147483647
    · have h1' : ¬ 2147483647 < p := by omega
      rw [decide_eq_true h0, decide_eq_true h1] at hr
      cases hv : wordB v with
      | false =>
        rw [hv] at hr WV
        obtain rfl : r = false := hr
        clear hx hv
        go_enter Tryz.func174, Tryz.ntmps174
        go_wp2_with (go_at_call 226; refine (WV.out _).mono ?_; rintro e' w' ⟨rfl, rfl⟩)
        go_ret
        exact ⟨rfl, (Below.refl _ _).alloc (Nat.le_refl _) _⟩
      | true =>
        rw [hv] at hr WV
        by_cases hl : l = []
        · have f1 : (bs l).toList = [] := by rw [hx, hl]
          have hwl : wordB l = false := by rw [hl]; rfl
          obtain rfl : r = dep := by rw [hr, hwl, hl]; cases dep <;> rfl
          clear hx hl hr hv hwl
          go_enter Tryz.func174, Tryz.ntmps174
          go_wp2_with (go_at_call 226; refine (WV.out _).mono ?_; rintro e' w' ⟨rfl, rfl⟩)
          go_ret
          exact ⟨rfl, (Below.refl _ _).alloc (Nat.le_refl _) _⟩
        · have f1 : ¬ (bs l).toList = [] := by rw [hx]; exact hl
          have f2 : (bs l).toList.isEmpty = false := by rw [hx]; simpa using hl
          have f3 : l.isEmpty = false := by simpa using hl
          obtain ⟨y, hy⟩ : ∃ y, y = wordB l := ⟨_, rfl⟩
          rw [← hy] at hr WR
          obtain rfl : r = y := by rw [hr, f3]; cases y <;> cases dep <;> rfl
          clear hx hl hr hv hy f3
          go_enter Tryz.func174, Tryz.ntmps174
          go_wp2_with fail
          go_at_call 226
          refine (WV.out _).mono ?_
          rintro e' w' ⟨rfl, rfl⟩
          go_wp2_with fail
          go_at_call 226
          refine (WR.out _).mono ?_
          rintro e' w' ⟨rfl, rfl⟩
          go_wp2_with fail
          go_ret
          exact ⟨rfl, (Below.refl _ _).alloc (Nat.le_refl _) _⟩
    · obtain rfl : r = false := by rw [hr, decide_eq_false h1]; simp
      have h2 : 2147483647 < p := by omega
      clear hx hr
      go_enter Tryz.func174, Tryz.ntmps174
      go_wp2_with fail
      go_ret
      exact ⟨rfl, (Below.refl _ _).alloc (Nat.le_refl _) _⟩
  · obtain rfl : r = false := by rw [hr, decide_eq_false h0]; rfl
    have h2 : p < 0 := by omega
    clear hx hr
    go_enter Tryz.func174, Tryz.ntmps174
    go_wp2_with fail
    go_ret
    exact ⟨rfl, (Below.refl _ _).alloc (Nat.le_refl _) _⟩
set_option maxRecDepth 100000 in
set_option maxHeartbeats 8000000 in
theorem dig_conv {d : Nat} {c : UInt8} (h : (c.toNat : Int) = 48 + (d : Int)) (W : World) : (convert 216 9 (.slice (some ⟨W.heap.size, 0, none⟩) 1 1)).run Tryz.prog (W.alloc (.cells #[.int .u8 (48 + (d : Int))] 5)) = .ok (.string (bs [c])) (W.alloc (.cells #[.int .u8 (48 + (d : Int))] 5)) := by
  have h1 := conv1r W c
  rw [h] at h1
  exact h1
theorem dig_conv2 {d : Nat} {c : UInt8} (h : (c.toNat : Int) = 48 + (d : Int)) (W W' : World) (hb : Below (W.alloc (.cells #[.int .u8 (48 + (d : Int))] 5)).drew.heap.size (W.alloc (.cells #[.int .u8 (48 + (d : Int))] 5)).drew W') : (convert 216 9 (.slice (some ⟨W.heap.size, 0, none⟩) 1 1)).run Tryz.prog W' = .ok (.string (bs [c])) W' :=
  run_convert_bytes_back _ _ _ 5 _ _ [c] Tryz.underlying216 Tryz.underlying5 Tryz.underlying9 (fun j hj => by
    match j, hj with
    | 0, _ =>
      have h1 := hb.cell (p := ⟨W.heap.size, 0, none⟩) (by show W.heap.size < (W.alloc _).heap.size; simp)
      rw [show (W.alloc (.cells #[.int .u8 (48 + (d : Int))] 5)).drew.cell? ⟨W.heap.size, 0, none⟩ = some (.int .u8 (48 + (d : Int))) from World.cell?_alloc_at _ _ _ _ rfl] at h1
      simp only [Addr.add]
      rw [if_pos trivial] <;> first | (rw [h1]; simp [h]) | (simp [h1, h]))
theorem dig_conv3 {d : Nat} {c : UInt8} (h : (c.toNat : Int) = 48 + (d : Int)) (W : World) : (convert 216 9 (.slice (some ⟨W.heap.size, 0, none⟩) 1 1)).run Tryz.prog (W.alloc (.cells #[.int .u8 (48 + (d : Int))] 5)).drew = .ok (.string (bs [c])) (W.alloc (.cells #[.int .u8 (48 + (d : Int))] 5)).drew := dig_conv2 h W _ (Below.refl _ _)
theorem dig_toInt {d : Nat} (h : d < 10) : ((UInt8.ofNat (48 + d)).toNat : Int) = 48 + (d : Int) := by rw [dig_toNat h]; omega
set_option maxRecDepth 100000 in
set_option maxHeartbeats 8000000 in
theorem digits_any (k : Nat) : ∀ (u : Nat) (w : World), u ≤ k → u ≤ 2147483647 → Calls Tryz.prog 251 #[.int .i64 (u : Int)] w fun r w' => r = .returned (.string (bs (Lib.decDigits u))) ∧ Below w.heap.size w w' := by
  have small : ∀ (u : Nat) (w : World), u < 10 → Calls Tryz.prog 251 #[.int .i64 (u : Int)] w fun r w' => r = .returned (.string (bs (Lib.decDigits u))) ∧ Below w.heap.size w w' := by
    intro u w hu
    have e : Lib.decDigits u = [UInt8.ofNat (48 + u)] := Lib.decDigits_one hu
    have hc := dig_toInt hu
    rw [e]
    clear e
    generalize UInt8.ofNat (48 + u) = c at *
    have hcv := dig_conv hc
    clear hc
    have h1 : (u : Int) < 10 := by omega
    have h0 : (0 : Int) ≤ (u : Int) := by omega
    go_enter Tryz.func251, Tryz.ntmps251
    go_wp2_with fail
    go_ret
    exact ⟨rfl, (Below.refl _ _).alloc (Nat.le_refl _) _⟩
  induction k with
  | zero => intro u w hk hu; exact small u w (by omega)
  | succ k ih =>
    intro u w hk hu
    by_cases h10 : u < 10
    · exact small u w h10
    · have IH := Lib.hid (fun W => ih (u / 10) W (by omega) (by omega))
      have e : Lib.decDigits u = Lib.decDigits (u / 10) ++ [UInt8.ofNat (48 + u % 10)] := by rw [Lib.decDigits, dif_neg h10]
      obtain ⟨q, hq⟩ : ∃ q, q = u / 10 := ⟨_, rfl⟩
      obtain ⟨d, hd⟩ : ∃ d, d = u % 10 := ⟨_, rfl⟩
      rw [← hq, ← hd] at e
      rw [← hq] at IH
      have hd10 : d < 10 := by omega
      have hl := dec_len 9 q (by simp; omega)
      have hz : (bs (Lib.decDigits q)).size ≤ 10 := by rw [bs_size]; exact hl
      rw [e, ← bs_join]
      generalize bs (Lib.decDigits q) = T at *
      have hc := dig_toInt hd10
      generalize UInt8.ofNat (48 + d) = c at *
      have hcv := dig_conv hc
      have hcv3 := dig_conv3 hc
      have HC := Lib.hid hc
      have hz2 : (bs [c]).size ≤ 1 := by rw [bs_size]; exact Nat.le_refl _
      clear hc
      have h1 : ¬ (u : Int) < 10 := by omega
      have f1 : (u : Int).tdiv 10 = (q : Int) := by rw [Int.tdiv_eq_ediv_of_nonneg (by omega)]; omega
      have f2 : (u : Int) / 10 = (q : Int) := by omega
      have f3 : (u : Int).tmod 10 = (d : Int) := by rw [Int.tmod_eq_emod_of_nonneg (by omega)]; omega
      have f4 : (u : Int) % 10 = (d : Int) := by omega
      have f5 : IntKind.i64.wrap (q : Int) = (q : Int) := by rw [IntWalk.i64_in _ (by omega)]
      have f6 : IntKind.i64.wrap (48 + (d : Int)) = 48 + (d : Int) := by rw [IntWalk.i64_in _ (by omega)]
      have f7 : IntKind.u8.wrap (48 + (d : Int)) = 48 + (d : Int) := by unfold IntKind.wrap; simp [IntKind.signed, IntKind.bits]; omega
      have f8 : IntKind.i64.wrap (d : Int) = (d : Int) := by rw [IntWalk.i64_in _ (by omega)]
      have b1 : (0 : Int) ≤ (d : Int) := by omega
      have b2 : (d : Int) ≤ 9 := by omega
      clear e hq hd hl h10 small ih hk
      go_enter Tryz.func251, Tryz.ntmps251
      go_wp2_with fail
      go_region_with ((go_at_call 251; refine (IH.out _).mono ?_; rintro e' w' ⟨rfl, hbb⟩; (try have hk := dig_conv2 HC.out _ _ hbb)))
      all_goals
        go_wp2_with fail
        go_ret
        first
          | exact ⟨rfl, ((((Below.refl _ _).drew).trans (hbb.mono (Nat.le_refl _))).alloc (by have := hbb.size; simpa using this) _)⟩
          | exact ⟨rfl, (((Below.refl _ _).alloc (Nat.le_refl _) _).drew).trans (hbb.mono (by show w.heap.size ≤ (w.alloc _).heap.size; simp))⟩
set_option maxRecDepth 100000 in
set_option maxHeartbeats 8000000 in
theorem revShow_any (e : Evr) (w : World) (hw : e.wf) : Calls Tryz.prog 214 #[e.val] w fun r w' => r = .returned (showV e) ∧ Below w.heap.size w w' := by
  have MA := Lib.hid (fun W => revMay_any e true W hw)
  cases hm : mayB e true with
  | false =>
    rw [hm] at MA
    have hv : showV e = .tuple #[.string ⟨#[]⟩, .int .i64 4] := by unfold showV; rw [hm, if_neg (by decide)]
    rw [hv]
    clear hv hm hw
    unfold Evr.val at *
    go_enter Tryz.func214, Tryz.ntmps214
    go_wp2_with (go_at_call 174; refine (MA.out _).mono ?_; rintro e' w' ⟨rfl, hb⟩)
    go_ret2
    exact ⟨rfl, ((Below.refl _ _).alloc (Nat.le_refl _) _).trans (hb.mono (by simp))⟩
  | true =>
    rw [hm] at MA
    obtain ⟨p0, p1, p2, p3⟩ := may_parts hm
    have hv : showV e = .tuple #[.string (bs (showL e)), .int .i64 0] := by unfold showV; rw [hm, if_pos rfl]
    rw [hv]
    obtain ⟨S, hS⟩ : ∃ S, S = bs (showL e) := ⟨_, rfl⟩
    rw [← hS]
    obtain ⟨u0, hu0⟩ := Int.eq_ofNat_of_zero_le p0
    have IT0 := Lib.hid (fun W => digits_any u0 u0 W (Nat.le_refl _) (by omega))
    rw [← hu0, ← itoa_of hu0] at IT0
    have IT := Lib.hid (fun W (h : Below w.heap.size w W) => IT0.out W)
    clear IT0 hu0
    obtain ⟨p, v, l⟩ := e
    dsimp only at *
    have z1 : (bs (Lib.itoa p)).size ≤ 10 := by rw [bs_size]; exact itoa_len p0 p1
    have z2 : (bs v).size ≤ 64 := by rw [bs_size]; exact p2
    have z3 : (bs l).size ≤ 64 := by rw [bs_size]; exact p3
    unfold showL at hS
    dsimp only at hS
    unfold relL at hS
    have hx : (bs l).toList = l := bs_toList _
    clear hv hm hw p2 p3
    unfold Evr.val at *
    dsimp only at *
    have hB0 : Below w.heap.size w (w.alloc (.cells #[.int .i64 p, .string (bs v), .string (bs l)] 23)) := (Below.refl _ _).alloc (Nat.le_refl _) _
    by_cases c0 : 0 < p
    · rw [if_pos c0] at hS
      by_cases c1 : l = []
      · rw [if_pos c1, List.append_nil] at hS
        have f1 : (bs l).toList = [] := by rw [hx, c1]
        have HS := Lib.hid (show S = bs (Lib.itoa p) ++ bs [58] ++ bs v from by rw [hS]; (repeat rw [bs_join]); try exact congrArg bs (by simp))
        clear hx c1 hS
        go_enter Tryz.func214, Tryz.ntmps214
        go_wp2_with fail
        go_at_call 174
        refine (MA.out _).mono ?_
        rintro e1 w1 ⟨rfl, h1⟩
        obtain ⟨hc, hf⟩ := bcell h1
        have hz : w.heap.size < w1.heap.size := by have := h1.size; simp at this; omega
        go_wp2_with fail
        go_at_call 251
        refine (IT.out _ (hB0.trans (h1.mono (by simp)))).mono ?_
        rintro e2 w2 ⟨rfl, h2⟩
        obtain ⟨hc2, hf2⟩ := bcell h2
        have hz2 : w1.heap.size ≤ w2.heap.size := h2.size
        go_wp2_with fail
        go_ret2
        exact ⟨by rw [HS.out]; rfl, hB0.trans ((h1.trans (h2.mono h1.size)).mono (by simp))⟩
      · rw [if_neg c1] at hS
        have f1 : ¬ (bs l).toList = [] := by rw [hx]; exact c1
        have f2 : (bs l).toList.isEmpty = false := by rw [hx]; simpa using c1
        have HS := Lib.hid (show S = bs (Lib.itoa p) ++ bs [58] ++ bs v ++ bs [45] ++ bs l from by rw [hS]; (repeat rw [bs_join]); try exact congrArg bs (by simp))
        clear hx c1 hS
        go_enter Tryz.func214, Tryz.ntmps214
        go_wp2_with fail
        go_at_call 174
        refine (MA.out _).mono ?_
        rintro e1 w1 ⟨rfl, h1⟩
        obtain ⟨hc, hf⟩ := bcell h1
        have hz : w.heap.size < w1.heap.size := by have := h1.size; simp at this; omega
        go_wp2_with fail
        go_at_call 251
        refine (IT.out _ (hB0.trans (h1.mono (by simp)))).mono ?_
        rintro e2 w2 ⟨rfl, h2⟩
        obtain ⟨hc2, hf2⟩ := bcell h2
        have hz2 : w1.heap.size ≤ w2.heap.size := h2.size
        go_wp2_with fail
        go_ret2
        exact ⟨by rw [HS.out]; rfl, hB0.trans ((h1.trans (h2.mono h1.size)).mono (by simp))⟩
    · have c2 : ¬ 0 < p := c0
      have c3 : p = 0 := by omega
      rw [if_neg c0, List.nil_append] at hS
      clear c0
      by_cases c1 : l = []
      · rw [if_pos c1, List.append_nil] at hS
        have f1 : (bs l).toList = [] := by rw [hx, c1]
        have HS := Lib.hid (show S = bs [] ++ bs v from by rw [hS]; (repeat rw [bs_join]); try exact congrArg bs (by simp))
        clear hx c1 hS
        subst c3
        go_enter Tryz.func214, Tryz.ntmps214
        go_wp2_with fail
        go_at_call 174
        refine (MA.out _).mono ?_
        rintro e1 w1 ⟨rfl, h1⟩
        obtain ⟨hc, hf⟩ := bcell h1
        have hz : w.heap.size < w1.heap.size := by have := h1.size; simp at this; omega
        go_wp2_with fail
        go_ret2
        exact ⟨by rw [HS.out]; rfl, hB0.trans (h1.mono (by simp))⟩
      · rw [if_neg c1] at hS
        have f1 : ¬ (bs l).toList = [] := by rw [hx]; exact c1
        have f2 : (bs l).toList.isEmpty = false := by rw [hx]; simpa using c1
        have HS := Lib.hid (show S = bs [] ++ bs v ++ bs [45] ++ bs l from by rw [hS]; (repeat rw [bs_join]); try exact congrArg bs (by simp))
        clear hx c1 hS
        subst c3
        go_enter Tryz.func214, Tryz.ntmps214
        go_wp2_with fail
        go_at_call 174
        refine (MA.out _).mono ?_
        rintro e1 w1 ⟨rfl, h1⟩
        obtain ⟨hc, hf⟩ := bcell h1
        have hz : w.heap.size < w1.heap.size := by have := h1.size; simp at this; omega
        go_wp2_with fail
        go_ret2
        exact ⟨by rw [HS.out]; rfl, hB0.trans (h1.mono (by simp))⟩
end Go.Proofs.YtoglbogfoolkaaaGreatDoor
