/- VercmpNothing, walked. -/
import Derived.Test.YtaibdghalhbpnaaDoorVmTells
import Derived.Laws.IdiomStrings
namespace Go.Proofs.YtaibdghalhbpnaaDoor
open Go.RowKit Go.Shelf

/-- all that the parts hold is no more than the text -/
def held2 (l : List Prt) : Nat := (l.map fun p => p.2.length + 1).sum
theorem zc_len (l : Bytes) : (l.dropWhile (· == 48)).length ≤ l.length := (List.dropWhile_suffix _).length_le
theorem cut_len (p : UInt8 → Bool) (l : Bytes) : (l.takeWhile p).length + (l.dropWhile p).length = l.length := by
  rw [← List.length_append, List.takeWhile_append_dropWhile]
theorem pts_held (n : Nat) : ∀ l : Bytes, l.length ≤ n → held2 (pts l) ≤ 2 * l.length := by
  induction n with
  | zero =>
    intro l hl
    obtain rfl := List.eq_nil_of_length_eq_zero (Nat.le_zero.1 hl)
    rw [pts_nil]; exact Nat.le_refl _
  | succ n ih =>
    intro l hl
    cases l with
    | nil => rw [pts_nil]; exact Nat.le_refl _
    | cons c l =>
      simp only [List.length_cons] at hl
      have hc := cut_len (like c) l
      have i1 := ih l (by omega)
      have i2 := ih (l.dropWhile (like c)) (by omega)
      rcases kk_all c with h | h | h | h | h
      · rw [pts_zero _ h]; simp only [List.length_cons]; omega
      · rw [pts_one _ (by omega) (by omega)]; unfold held2 at *; simp only [List.map_cons, List.sum_cons, List.length_cons, List.length_nil]; omega
      · rw [pts_one _ (by omega) (by omega)]; unfold held2 at *; simp only [List.map_cons, List.sum_cons, List.length_cons, List.length_nil]; omega
      · rw [pts_word _ h]; unfold held2 at *; simp only [List.map_cons, List.sum_cons, List.length_cons]; omega
      · rw [pts_num _ h]
        have hz := zc_len (c :: l.takeWhile (like c))
        unfold held2 at *
        simp only [List.map_cons, List.sum_cons, List.length_cons] at *
        omega
theorem ptxt_len (z : Nat) (p : Prt) (hz : 1 ≤ z) : (ptxt z p).length ≤ z + p.2.length := by
  unfold ptxt
  split
  · simp; omega
  · split
    · simp; omega
    · split
      · simp
      · simp
theorem glued_len (z : Nat) (n : UInt8) (hz : 1 ≤ z) : ∀ l : List Prt, (glued z n l).length ≤ (z + 1) * held2 l
  | [] => by simp [glued]
  | p :: l => by
    have h1 := ptxt_len z p hz
    have h2 := glued_len z n hz l
    have h3 : held2 (p :: l) = p.2.length + 1 + held2 l := by unfold held2; simp
    have h4 : (z + 1) * (p.2.length + 1) = z * p.2.length + z + p.2.length + 1 := by rw [Nat.add_mul, Nat.mul_add]; omega
    rw [h3, Nat.mul_add, h4]
    simp only [glued, List.length_append, List.length_cons]
    omega
theorem bs_cat (a b : Bytes) : bs a ++ bs b = bs (a ++ b) := by
  apply toList_inj
  rw [toList_append, bs_toList, bs_toList, bs_toList]
/-- what stands ahead of a part's text -/
def ahead (z : Nat) (p : Prt) : Bytes := if p.1 = 1 then [126] else if p.1 = 3 then [94] else if p.1 = 5 then List.replicate z 48 else []
theorem glued_next (z : Nat) (n : UInt8) (la : List Prt) (k : Nat) (h : k < la.length) : bs (n :: glued z n (la.take k)) ++ bs (ahead z la[k]) ++ bs la[k].2 ++ bs [n] = bs (n :: glued z n (la.take (k + 1))) := by
  rw [bs_cat, bs_cat, bs_cat, take_snoc la k h, glued_snoc]
  unfold ptxt ahead
  simp
theorem glued_next0 (z : Nat) (n : UInt8) (la : List Prt) (k : Nat) (h : k < la.length) (h0 : ahead z la[k] = []) : bs (n :: glued z n (la.take k)) ++ bs la[k].2 ++ bs [n] = bs (n :: glued z n (la.take (k + 1))) := by
  rw [← glued_next z n la k h, h0, bs_cat (n :: glued z n (la.take k)) [], List.append_nil]
/-- the three laws at once -/
theorem nothing_all {z : Nat} (hz : 1 ≤ z) (hz5 : z ≤ 5) {n : UInt8} (hn : kk n = 0) (a b : ByteArray) (ha : a.size ≤ 3000) :
    comp a.toList (bs (n :: glued z n (pts a.toList))).toList = 0 ∧ comp (bs (n :: glued z n (pts a.toList))).toList b.toList = comp a.toList b.toList ∧ comp (bs [n] ++ a ++ bs [n]).toList b.toList = comp a.toList b.toList ∧ (bs (n :: glued z n (pts a.toList))).size ≤ 1000000 ∧ (bs [n] ++ a ++ bs [n]).size ≤ 1000000 := by
  have h1 := nothing1 hz hn a.toList
  have h2 := nothing2 hn a.toList
  have e : (bs [n] ++ a ++ bs [n]).toList = n :: (a.toList ++ [n]) := by rw [toList_append, toList_append, bs_toList]; simp
  have hl := pts_held _ a.toList (Nat.le_refl _)
  rw [size_toList] at hl
  have hg := glued_len z n hz (pts a.toList)
  have hm : (z + 1) * held2 (pts a.toList) ≤ 6 * 6000 := Nat.mul_le_mul (by omega) (by omega)
  refine ⟨?_, ?_, ?_, ?_, ?_⟩
  · rw [bs_toList, comp_of_pts' h1]; exact comp_self _
  · rw [bs_toList]; exact comp_of_pts h1 _
  · rw [e]; exact comp_of_pts h2 _
  · rw [bs_size]; simp only [List.length_cons]; omega
  · rw [← size_toList, e]; simp only [List.length_cons, List.length_append, List.length_nil, size_toList]; omega
theorem conv1 (W : World) (c : UInt8) : (convert 42 9 (.slice (some ⟨W.heap.size, 0, none⟩) 1 1)).run Tryd.prog (W.alloc (.cells #[.int .u8 (c.toNat : Int)] 5)) = .ok (.string (bs [c])) (W.alloc (.cells #[.int .u8 (c.toNat : Int)] 5)) :=
  run_convert_bytes_back _ _ _ 5 _ _ [c] Tryd.underlying42 Tryd.underlying5 Tryd.underlying9 (fun j hj => by
    match j, hj with
    | 0, _ => simp [Addr.add])
theorem pick_n (c : UInt8) : ∃ n : UInt8, kk n = 0 ∧ (kk c = 0 → n = c) ∧ (kk c ≠ 0 → n = 46) := by
  by_cases h : kk c = 0
  · exact ⟨c, h, fun _ => rfl, fun g => absurd h g⟩
  · exact ⟨46, kk_dot, fun g => absurd g h, fun _ => rfl⟩
theorem app_nil (T : ByteArray) : T ++ bs [] = T := by
  apply toList_inj
  rw [toList_append, bs_toList, List.append_nil]
theorem held2_app (a b : List Prt) : held2 (a ++ b) = held2 a + held2 b := by unfold held2; simp
theorem held2_take (la : List Prt) (k : Nat) : held2 (la.take k) ≤ held2 la := by
  have := held2_app (la.take k) (la.drop k)
  rw [List.take_append_drop] at this
  omega
theorem held2_mem {la : List Prt} {p : Prt} (h : p ∈ la) : p.2.length ≤ held2 la := by
  obtain ⟨a, b, rfl⟩ := List.append_of_mem h
  have h1 := held2_app a (p :: b)
  have h2 : held2 (p :: b) = p.2.length + 1 + held2 b := by unfold held2; simp
  omega
theorem glued_size {z : Nat} {n : UInt8} {la : List Prt} {k : Nat} (h1 : 1 ≤ z) (h5 : z ≤ 5) (hH : held2 la ≤ 6000) : (bs (n :: glued z n (la.take k))).size ≤ 40000 := by
  rw [bs_size]
  have hg := glued_len z n h1 (la.take k)
  have ht := held2_take la k
  have hm : (z + 1) * held2 (la.take k) ≤ 6 * 6000 := Nat.mul_le_mul (by omega) (by omega)
  simp only [List.length_cons]
  omega
theorem wrap64_ge0 (k : Int) : 0 ≤ IntKind.u64.wrap k := by
  unfold IntKind.wrap
  simp [IntKind.signed, IntKind.bits, IntKind.min, IntKind.max]
  omega
set_option maxRecDepth 100000 in
set_option maxHeartbeats 16000000 in
theorem vercmpNothing_row (w : World) (a : ByteArray) (za : a.size ≤ reachBytes) (b : ByteArray) (zb : b.size ≤ reachBytes) (zeros : Int) (wz : (Lit.int .i64 zeros).wf = true) (other : Int) (wo : (Lit.int .u8 other).wf = true) :
    Calls Tryd.prog 15 #[.string a, .string b, .int .i64 zeros, .int .u8 other] w fun e w' => e = .returned (.bool true) ∧ Below w.heap.size w w' := by
  have AW := Lib.hid (fun W => awake02 W)
  have qa : (a.size : Int) ≤ 140737488351232 := by have : reachBytes = 140737488351232 := rfl; omega
  have qb : (b.size : Int) ≤ 140737488351232 := by have : reachBytes = 140737488351232 := rfl; omega
  clear za zb
  by_cases h1 : (3000 : Int) < (a.size : Int) + (b.size : Int)
  · go_enter Tryd.func15, Tryd.ntmps15
    go_wp2_with fail
    go_at_call 36
    refine (AW.out _).mono ?_
    rintro e9 w9 ⟨rfl, h⟩
    go_wp2
    go_ret
    exact ⟨rfl, h⟩
  have uo := u8_wf wo
  obtain ⟨c, rfl⟩ : ∃ c : UInt8, other = (c.toNat : Int) := ⟨UInt8.ofNat other.toNat, by rw [UInt8.toNat_ofNat']; omega⟩
  clear wo uo wz
  have hy0 := wrap64_ge0 zeros
  obtain ⟨y, hy⟩ : ∃ y, y = IntKind.u64.wrap zeros := ⟨_, rfl⟩
  obtain ⟨q, hq⟩ : ∃ q : Nat, (q : Int) = y.tmod 5 := ⟨(y.tmod 5).toNat, by rw [Int.tmod_eq_emod_of_nonneg (by omega)]; omega⟩
  have hq5 : q < 5 := by rw [Int.tmod_eq_emod_of_nonneg (by omega)] at hq; omega
  have sa : a.size ≤ 3000 := by omega
  have sb : b.size ≤ 3000 := by omega
  have P1 := Lib.hid (fun W => parts_any (bs [c]) W (by show 1 ≤ _; omega))
  have PA := Lib.hid (fun W => parts_any a W (by omega))
  have hcv := conv1
  obtain ⟨z, hz⟩ : ∃ z : Nat, z = 1 + q := ⟨_, rfl⟩
  obtain ⟨n, hkn, hN0, hN1⟩ := pick_n c
  have NA := nothing_all (z := z) (by omega) (by omega) hkn a b sa
  have wf := pts_wf _ a.toList (Nat.le_refl _)
  have hH := pts_held _ a.toList (Nat.le_refl _)
  rw [size_toList] at hH
  have na := pts_len a.toList
  rw [size_toList] at na
  have CAB := Lib.hid (fun W => comp_any a b W (by omega) (by omega))
  generalize pts a.toList = la at *
  obtain ⟨S, hS⟩ : ∃ S, S = bs (n :: glued z n la) := ⟨_, rfl⟩
  rw [← hS] at NA
  obtain ⟨N, hNn⟩ : ∃ N, N = bs [n] := ⟨_, rfl⟩
  rw [← hNn] at NA
  have CAS := Lib.hid (fun W => cmp_cat W a S 0 NA.1 (by omega) NA.2.2.2.1)
  have CSB := Lib.hid (fun W => cmp_cat W S b _ NA.2.1 NA.2.2.2.1 (by omega))
  have CNB := Lib.hid (fun W => cmp_cat W (N ++ a ++ N) b _ NA.2.2.1 NA.2.2.2.2 (by omega))
  generalize comp a.toList b.toList = r at *
  have nl : la.length ≤ 3000 := by omega
  have HH := Lib.hid (show held2 la ≤ 6000 by omega)
  clear hH
  have hw1 : IntKind.i64.wrap (q : Int) = (q : Int) := by rw [IntWalk.i64_in _ (by omega)]
  have HW := Lib.hid hw1
  have hq2 : y.tmod 5 = (q : Int) := hq.symm
  have hq3 : y % 5 = (q : Int) := by rw [← Int.tmod_eq_emod_of_nonneg (by omega)]; exact hq.symm
  have hy2 : IntKind.u64.wrap zeros = y := hy.symm
  have HZ := Lib.hid hz
  have HSS := Lib.hid hS
  have HNN := Lib.hid hNn
  have HWF := Lib.hid wf
  have HY := Lib.hid hy2
  have HQ2 := Lib.hid hq2
  have HQ3 := Lib.hid hq3
  clear hq hy hz hS hNn wf NA na sa sb hkn hw1 hy2 hq2 hq3 hy0
  by_cases hk : kk c = 0
  · rw [bs_toList] at P1
    rw [(pts_single c).2 hk] at P1
    have hc := hN0 hk
    subst hc
    clear hk hN0 hN1
    go_enter Tryd.func15, Tryd.ntmps15
    go_wp2_with fail
    go_at_call 36
    refine (AW.out _).mono ?_
    rintro e1 w1 ⟨rfl, B1⟩
    go_wp2_with fail
    go_at_call 37
    refine (P1.out _).mono ?_
    rintro e2 w2 ⟨v2, rfl, hv2, h⟩
    have B2 := (B1.alloc B1.size _).trans (h.mono (by simp; have := B1.size; omega))
    obtain ⟨A2, c2, rfl, _⟩ := hv2.rd (fun _ => rfl)
    clear hv2 h B1
    go_wp2_with fail
    go_at_call 37
    refine (PA.out _).mono ?_
    rintro e3 w3 ⟨v3, rfl, hv3, h⟩
    have B3 := (B2.alloc B2.size _).trans (h.mono (by simp; have := B2.size; omega))
    obtain ⟨A, cA, rfl, hrd⟩ := hv3.rd (fun _ => rfl)
    have HR := Lib.hid hrd
    clear hv3 h B2 hrd
    go_wp2_with fail
    have e0 : bs [n] = N := HNN.out.symm
    rw [e0]
    clear e0
    go_loopw [10, 12] (fun s i wr => ∃ k : Nat, k ≤ la.length ∧ i = .int .i64 (k : Int) ∧ s = .string (bs (n :: glued z n (la.take k))) ∧ w3 = wr) (fun _ i _ => la.length - (intOf i).toNat)
    case atStart => exact ⟨0, by omega, rfl, by rw [HNN.out]; rfl, rfl⟩
    case round =>
      obtain ⟨k, hk, rfl, rfl, rfl⟩ := hrel
      obtain ⟨T, hT⟩ : ∃ T, T = bs (n :: glued z n (la.take k)) := ⟨_, rfl⟩
      rw [← hT]
      by_cases hlt : k < la.length
      · have G := glued_next z n la k hlt
        have hTs : T.size ≤ 40000 := by rw [hT]; exact glued_size (by have := HZ.out; omega) (by have := HZ.out; omega) HH.out
        have hps := held2_mem (List.getElem_mem hlt)
        have hps : (bs la[k].2).size ≤ 6000 := by rw [bs_size]; have := HH.out; omega
        have hNs : N.size ≤ 1 := by rw [HNN.out, bs_size]; exact Nat.le_refl _
        rw [← hT, ← HNN.out] at G
        obtain ⟨T2, hT2⟩ : ∃ T2, T2 = bs (n :: glued z n (la.take (k + 1))) := ⟨_, rfl⟩
        rw [← hT2] at G
        have HT2 := Lib.hid hT2
        clear hT2
        have hm := HWF.out la[k] (List.getElem_mem _)
        obtain ⟨b1, o1, rfl, _, x0, x1⟩ := HR.out.at2 (f := fun p : Prt => .int .u8 p.1) (g := fun p : Prt => .string (bs p.2)) (fun _ => rfl) hlt
        generalize la[k] = p at *
        have i0 : (0 : Int) ≤ (k : Int) := by omega
        have i1 : (k : Int) < (la.length : Int) := by omega
        clear hT
        have hk4 : p.1 = 1 ∨ p.1 = 3 ∨ p.1 = 4 ∨ p.1 = 5 := by rcases hm with h | h | h | h
                                                                <;> simp [h.1]
        clear hm
        rcases hk4 with h2 | h2 | h2 | h2
        · rw [h2] at x0
          have G2 := Lib.hid (show T ++ ⟨#[126]⟩ ++ bs p.2 ++ N = T2 from by rw [← G]; unfold ahead; rw [h2]; rfl)
          clear G h2
          go_wp2_with fail
          go_roundw
          case rel => exact ⟨k + 1, by omega, by go_num, val_str (G2.out.trans HT2.out), by trivial⟩
          case measure => simp [intOf]; omega
        · rw [h2] at x0
          have G2 := Lib.hid (show T ++ ⟨#[94]⟩ ++ bs p.2 ++ N = T2 from by rw [← G]; unfold ahead; rw [h2]; rfl)
          clear G h2
          go_wp2_with fail
          go_roundw
          case rel => exact ⟨k + 1, by omega, by go_num, val_str (G2.out.trans HT2.out), by trivial⟩
          case measure => simp [intOf]; omega
        · rw [h2] at x0
          have G2 := Lib.hid (show T ++ bs p.2 ++ N = T2 from by rw [← G]; unfold ahead; rw [h2]; rw [if_neg (by decide), if_neg (by decide), if_neg (by decide), app_nil])
          clear G h2
          go_wp2_with fail
          go_roundw
          case rel => exact ⟨k + 1, by omega, by go_num, val_str (G2.out.trans HT2.out), by trivial⟩
          case measure => simp [intOf]; omega
        · rw [h2] at x0
          have G2 := Lib.hid (show T ++ bs (List.replicate z 48) ++ bs p.2 ++ N = T2 from by rw [← G]; unfold ahead; rw [h2]; rfl)
          clear G h2
          have z1 := HZ.out
          have hw1 := HW.out
          have hy2 := HY.out
          have hq2 := HQ2.out
          have hq3 := HQ3.out
          go_wp2_with fail
          clear z1 hw1 hy2 hq2 hq3
          obtain ⟨wo, hwo⟩ : ∃ wo : World, wo = w3 := ⟨_, rfl⟩
          go_loopw [10, 13] (fun s i wr => ∃ m : Nat, m ≤ z ∧ i = .int .i64 (m : Int) ∧ s = .string (T ++ bs (List.replicate m 48)) ∧ w3 = wr) (fun _ i _ => z - (intOf i).toNat)
          case atStart => exact ⟨0, by omega, rfl, by rw [show bs (List.replicate 0 48) = bs [] from rfl, app_nil], rfl⟩
          case round =>
            obtain ⟨m, hm, rfl, rfl, rfl⟩ := hrel
            have hms : (bs (List.replicate m 48)).size ≤ 5 := by rw [bs_size, List.length_replicate]; have := HZ.out; omega
            have z1 := HZ.out
            have hw1 := HW.out
            have hy2 := HY.out
            have hq2 := HQ2.out
            have hq3 := HQ3.out
            by_cases hml : m < z
            · have m1 : (m : Int) < 1 + (q : Int) := by omega
              have G3 := Lib.hid (show T ++ bs (List.replicate m 48) ++ ⟨#[48]⟩ = T ++ bs (List.replicate (m + 1) 48) from by rw [List.replicate_succ', ← bs_cat, ByteArray.append_assoc]; rfl)
              clear z1
              go_wp2_with fail
              clear hw1 hy2 hq2 hq3
              go_roundw
              case rel => exact ⟨m + 1, by omega, by go_num, val_str G3.out, by trivial⟩
              case measure => simp [intOf]; omega
            · have m1 : ¬ (m : Int) < 1 + (q : Int) := by omega
              have hmz : m = z := by omega
              subst hmz
              clear z1
              go_wp2_with fail
              clear hw1 hy2 hq2 hq3
              go_roundw
              case rel => exact ⟨k + 1, by omega, by go_num, val_str (G2.out.trans HT2.out), by trivial⟩
              case measure => simp [intOf]; omega
      · have hkl : k = la.length := by omega
        have hNs : N.size ≤ 1 := by rw [HNN.out, bs_size]; exact Nat.le_refl _
        have e4 : T = S := by rw [hT, HSS.out, hkl, List.take_length]
        rw [e4]
        have i1 : ¬ (k : Int) < (la.length : Int) := by omega
        clear e4 hT hkl HR HSS
        go_wp2_with fail
        go_at_call 39
        refine (CAS.out _).mono ?_
        rintro e4 w4 ⟨rfl, h⟩
        have B4 := B3.trans (h.mono B3.size)
        clear h
        go_wp2_with fail
        go_at_call 39
        refine (CAB.out _).mono ?_
        rintro e5 w5 ⟨rfl, h⟩
        have B5 := B4.trans (h.mono B4.size)
        clear h
        go_wp2_with fail
        go_at_call 39
        refine (CSB.out _).mono ?_
        rintro e6 w6 ⟨rfl, h⟩
        have B6 := B5.trans (h.mono B5.size)
        clear h
        go_wp2_with fail
        go_at_call 39
        refine (CNB.out _).mono ?_
        rintro e7 w7 ⟨rfl, h⟩
        have B7 := B6.trans (h.mono B6.size)
        clear h
        go_wp2_with fail
        go_at_call 39
        refine (CAB.out _).mono ?_
        rintro e8 w8 ⟨rfl, h⟩
        have B8 := B7.trans (h.mono B7.size)
        clear h
        go_wp2
        go_ret
        exact ⟨rfl, B8⟩
  · rw [bs_toList] at P1
    have hne : pts [c] ≠ [] := fun h => hk ((pts_single c).1 h)
    have hc := hN1 hk
    subst hc
    have hl0 : 0 < (pts [c]).length := List.length_pos_iff.2 hne
    generalize pts [c] = lc at *
    have hl1 : ((lc.length : Int) == 0) = false := by simp only [beq_eq_false_iff_ne]; omega
    have hl2 : ¬ (lc.length : Int) = 0 := by omega
    clear hk hN0 hN1 hne
    go_enter Tryd.func15, Tryd.ntmps15
    go_wp2_with fail
    go_at_call 36
    refine (AW.out _).mono ?_
    rintro e1 w1 ⟨rfl, B1⟩
    go_wp2_with fail
    go_at_call 37
    refine (P1.out _).mono ?_
    rintro e2 w2 ⟨v2, rfl, hv2, h⟩
    have B2 := (B1.alloc B1.size _).trans (h.mono (by simp; have := B1.size; omega))
    obtain ⟨A2, c2, rfl, _⟩ := hv2.rd (fun _ => rfl)
    clear hv2 h B1
    go_wp2_with fail
    go_at_call 37
    refine (PA.out _).mono ?_
    rintro e3 w3 ⟨v3, rfl, hv3, h⟩
    have B3 := B2.trans (h.mono B2.size)
    obtain ⟨A, cA, rfl, hrd⟩ := hv3.rd (fun _ => rfl)
    have HR := Lib.hid hrd
    clear hv3 h B2 hrd
    go_wp2_with fail
    have e0 : (⟨#[46]⟩ : ByteArray) = N := HNN.out.symm
    obtain ⟨n, hn46⟩ : ∃ n : UInt8, n = 46 := ⟨_, rfl⟩
    rw [← hn46] at HSS HNN
    clear hn46
    rw [e0]
    clear e0
    go_loopw [10, 12] (fun s i wr => ∃ k : Nat, k ≤ la.length ∧ i = .int .i64 (k : Int) ∧ s = .string (bs (n :: glued z n (la.take k))) ∧ w3 = wr) (fun _ i _ => la.length - (intOf i).toNat)
    case atStart => exact ⟨0, by omega, rfl, by rw [HNN.out]; rfl, rfl⟩
    case round =>
      obtain ⟨k, hk, rfl, rfl, rfl⟩ := hrel
      obtain ⟨T, hT⟩ : ∃ T, T = bs (n :: glued z n (la.take k)) := ⟨_, rfl⟩
      rw [← hT]
      by_cases hlt : k < la.length
      · have G := glued_next z n la k hlt
        have hTs : T.size ≤ 40000 := by rw [hT]; exact glued_size (by have := HZ.out; omega) (by have := HZ.out; omega) HH.out
        have hps := held2_mem (List.getElem_mem hlt)
        have hps : (bs la[k].2).size ≤ 6000 := by rw [bs_size]; have := HH.out; omega
        have hNs : N.size ≤ 1 := by rw [HNN.out, bs_size]; exact Nat.le_refl _
        rw [← hT, ← HNN.out] at G
        obtain ⟨T2, hT2⟩ : ∃ T2, T2 = bs (n :: glued z n (la.take (k + 1))) := ⟨_, rfl⟩
        rw [← hT2] at G
        have HT2 := Lib.hid hT2
        clear hT2
        have hm := HWF.out la[k] (List.getElem_mem _)
        obtain ⟨b1, o1, rfl, _, x0, x1⟩ := HR.out.at2 (f := fun p : Prt => .int .u8 p.1) (g := fun p : Prt => .string (bs p.2)) (fun _ => rfl) hlt
        generalize la[k] = p at *
        have i0 : (0 : Int) ≤ (k : Int) := by omega
        have i1 : (k : Int) < (la.length : Int) := by omega
        clear hT
        have hk4 : p.1 = 1 ∨ p.1 = 3 ∨ p.1 = 4 ∨ p.1 = 5 := by rcases hm with h | h | h | h
                                                                <;> simp [h.1]
        clear hm
        rcases hk4 with h2 | h2 | h2 | h2
        · rw [h2] at x0
          have G2 := Lib.hid (show T ++ ⟨#[126]⟩ ++ bs p.2 ++ N = T2 from by rw [← G]; unfold ahead; rw [h2]; rfl)
          clear G h2
          go_wp2_with fail
          go_roundw
          case rel => exact ⟨k + 1, by omega, by go_num, val_str (G2.out.trans HT2.out), by trivial⟩
          case measure => simp [intOf]; omega
        · rw [h2] at x0
          have G2 := Lib.hid (show T ++ ⟨#[94]⟩ ++ bs p.2 ++ N = T2 from by rw [← G]; unfold ahead; rw [h2]; rfl)
          clear G h2
          go_wp2_with fail
          go_roundw
          case rel => exact ⟨k + 1, by omega, by go_num, val_str (G2.out.trans HT2.out), by trivial⟩
          case measure => simp [intOf]; omega
        · rw [h2] at x0
          have G2 := Lib.hid (show T ++ bs p.2 ++ N = T2 from by rw [← G]; unfold ahead; rw [h2]; rw [if_neg (by decide), if_neg (by decide), if_neg (by decide), app_nil])
          clear G h2
          go_wp2_with fail
          go_roundw
          case rel => exact ⟨k + 1, by omega, by go_num, val_str (G2.out.trans HT2.out), by trivial⟩
          case measure => simp [intOf]; omega
        · rw [h2] at x0
          have G2 := Lib.hid (show T ++ bs (List.replicate z 48) ++ bs p.2 ++ N = T2 from by rw [← G]; unfold ahead; rw [h2]; rfl)
          clear G h2
          have z1 := HZ.out
          have hw1 := HW.out
          have hy2 := HY.out
          have hq2 := HQ2.out
          have hq3 := HQ3.out
          go_wp2_with fail
          clear z1 hw1 hy2 hq2 hq3
          obtain ⟨wo, hwo⟩ : ∃ wo : World, wo = w3 := ⟨_, rfl⟩
          go_loopw [10, 13] (fun s i wr => ∃ m : Nat, m ≤ z ∧ i = .int .i64 (m : Int) ∧ s = .string (T ++ bs (List.replicate m 48)) ∧ w3 = wr) (fun _ i _ => z - (intOf i).toNat)
          case atStart => exact ⟨0, by omega, rfl, by rw [show bs (List.replicate 0 48) = bs [] from rfl, app_nil], rfl⟩
          case round =>
            obtain ⟨m, hm, rfl, rfl, rfl⟩ := hrel
            have hms : (bs (List.replicate m 48)).size ≤ 5 := by rw [bs_size, List.length_replicate]; have := HZ.out; omega
            have z1 := HZ.out
            have hw1 := HW.out
            have hy2 := HY.out
            have hq2 := HQ2.out
            have hq3 := HQ3.out
            by_cases hml : m < z
            · have m1 : (m : Int) < 1 + (q : Int) := by omega
              have G3 := Lib.hid (show T ++ bs (List.replicate m 48) ++ ⟨#[48]⟩ = T ++ bs (List.replicate (m + 1) 48) from by rw [List.replicate_succ', ← bs_cat, ByteArray.append_assoc]; rfl)
              clear z1
              go_wp2_with fail
              clear hw1 hy2 hq2 hq3
              go_roundw
              case rel => exact ⟨m + 1, by omega, by go_num, val_str G3.out, by trivial⟩
              case measure => simp [intOf]; omega
            · have m1 : ¬ (m : Int) < 1 + (q : Int) := by omega
              have hmz : m = z := by omega
              subst hmz
              clear z1
              go_wp2_with fail
              clear hw1 hy2 hq2 hq3
              go_roundw
              case rel => exact ⟨k + 1, by omega, by go_num, val_str (G2.out.trans HT2.out), by trivial⟩
              case measure => simp [intOf]; omega
      · have hkl : k = la.length := by omega
        have hNs : N.size ≤ 1 := by rw [HNN.out, bs_size]; exact Nat.le_refl _
        have e4 : T = S := by rw [hT, HSS.out, hkl, List.take_length]
        rw [e4]
        have i1 : ¬ (k : Int) < (la.length : Int) := by omega
        clear e4 hT hkl HR HSS
        go_wp2_with fail
        go_at_call 39
        refine (CAS.out _).mono ?_
        rintro e4 w4 ⟨rfl, h⟩
        have B4 := B3.trans (h.mono B3.size)
        clear h
        go_wp2_with fail
        go_at_call 39
        refine (CAB.out _).mono ?_
        rintro e5 w5 ⟨rfl, h⟩
        have B5 := B4.trans (h.mono B4.size)
        clear h
        go_wp2_with fail
        go_at_call 39
        refine (CSB.out _).mono ?_
        rintro e6 w6 ⟨rfl, h⟩
        have B6 := B5.trans (h.mono B5.size)
        clear h
        go_wp2_with fail
        go_at_call 39
        refine (CNB.out _).mono ?_
        rintro e7 w7 ⟨rfl, h⟩
        have B7 := B6.trans (h.mono B6.size)
        clear h
        go_wp2_with fail
        go_at_call 39
        refine (CAB.out _).mono ?_
        rintro e8 w8 ⟨rfl, h⟩
        have B8 := B7.trans (h.mono B7.size)
        clear h
        go_wp2
        go_ret
        exact ⟨rfl, B8⟩
end Go.Proofs.YtaibdghalhbpnaaDoor
