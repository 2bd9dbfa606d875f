/- EvRefP -/
import Derived.Test.YtnfagaccbkeikaaGreatDoorRichReadsRowG20
/- Walks: the EVR of a text, by the document. -/

namespace Go.Proofs.YtnfagaccbkeikaaGreatDoor
open Go.RowKit Go.Shelf

theorem parseV_r (s : Bytes) : parseV s = match rOf s with | some e => .tuple #[e.val, .int .i64 0] | none => .tuple #[zeroE.val, .int .i64 4] := by unfold parseV; rw [rOf_eq]; cases evOf s <;> rfl
theorem vfrom_lt : ∀ (m : Nat) (l : Bytes), l.length ≤ m → (∀ c ∈ l, dgt c = true) → vfrom 0 l < 10 ^ m
  | 0, l, h, _ => by
    obtain rfl := List.eq_nil_of_length_eq_zero (Nat.le_zero.1 h)
    rw [vfrom_nil]; decide
  | m + 1, l, h, hd => by
    by_cases hne : l = []
    · subst hne; rw [vfrom_nil]; exact Nat.pow_pos (by decide)
    · obtain ⟨r, c, rfl⟩ : ∃ r c, l = r ++ [c] := ⟨_, _, (List.dropLast_concat_getLast hne).symm⟩
      have h1 := vfrom_lt m r (by simp at h; omega) (fun x hx => hd x (by simp [hx]))
      have hc := hd c (by simp)
      unfold dgt at hc
      have hc := of_decide_eq_true hc
      rw [vfrom_app, vfrom_cons, vfrom_nil, Nat.pow_succ]
      omega
theorem rnum_of {A : ByteArray} (h1 : 1 ≤ A.size) (h2 : A.size ≤ 10) (h3 : A[0].toNat ≠ 48) (h4 : ∀ c ∈ A.toList, dgt c = true) : rnum A.toList = true := by
  have h5 : A.toList.head?.map (·.toNat) ≠ some 48 := by
    have := toList_drop A 0 (by omega)
    rw [List.drop_zero] at this
    rw [this]; simpa using h3
  unfold rnum
  simp only [Bool.and_eq_true, decide_eq_true_eq, Bool.not_eq_true', List.all_eq_true, beq_eq_false_iff_ne, ne_eq]
  exact ⟨by rw [size_toList]; exact h1, by rw [size_toList]; exact h2, h5, h4⟩
theorem rnum_no1 {A : ByteArray} (h : A.size = 0 ∨ 10 < A.size) : rnum A.toList = false := by
  unfold rnum
  rw [size_toList]
  rcases h with h | h
  · rw [decide_eq_false (by omega)]; rfl
  · rw [decide_eq_false (p := A.size ≤ 10) (by omega)]; simp
theorem rnum_no2 {A : ByteArray} (h0 : 0 < A.size) (h : A[0].toNat = 48) : rnum A.toList = false := by
  have := toList_drop A 0 h0
  rw [List.drop_zero] at this
  unfold rnum
  rw [this]; simp [h]
theorem rnum_no3 {A : ByteArray} {k : Nat} (hk : k < A.size) (h : dgt A[k] = false) : rnum A.toList = false := by
  cases hr : rnum A.toList with
  | false => rfl
  | true =>
    unfold rnum at hr
    simp only [Bool.and_eq_true, List.all_eq_true] at hr
    have := hr.2.2.2 A[k] (by rw [← toList_get A k hk]; exact List.getElem_mem _)
    rw [h] at this; cases this
theorem drew_pe {a0 a1 a2 b0 b1 b2 : Value} {n : Nat} {w W : World} (h : W.cell? ⟨n, 0, none⟩ = some (a0) ∧ W.cell? ⟨n, 1, none⟩ = some (a1) ∧ W.cell? ⟨n, 2, none⟩ = some (a2) ∧ W.cell? ⟨n + 1, 0, none⟩ = some (b0) ∧ W.cell? ⟨n + 1, 1, none⟩ = some (b1) ∧ W.cell? ⟨n + 1, 2, none⟩ = some (b2) ∧ n < W.heap.size ∧ n + 1 < W.heap.size ∧ W.frozen? ⟨n, 0, none⟩ = false ∧ W.frozen? ⟨n, 1, none⟩ = false ∧ W.frozen? ⟨n, 2, none⟩ = false ∧ W.frozen? ⟨n + 1, 0, none⟩ = false ∧ W.frozen? ⟨n + 1, 1, none⟩ = false ∧ W.frozen? ⟨n + 1, 2, none⟩ = false ∧ Below n w W) : W.drew.cell? ⟨n, 0, none⟩ = some (a0) ∧ W.drew.cell? ⟨n, 1, none⟩ = some (a1) ∧ W.drew.cell? ⟨n, 2, none⟩ = some (a2) ∧ W.drew.cell? ⟨n + 1, 0, none⟩ = some (b0) ∧ W.drew.cell? ⟨n + 1, 1, none⟩ = some (b1) ∧ W.drew.cell? ⟨n + 1, 2, none⟩ = some (b2) ∧ n < W.drew.heap.size ∧ n + 1 < W.drew.heap.size ∧ W.drew.frozen? ⟨n, 0, none⟩ = false ∧ W.drew.frozen? ⟨n, 1, none⟩ = false ∧ W.drew.frozen? ⟨n, 2, none⟩ = false ∧ W.drew.frozen? ⟨n + 1, 0, none⟩ = false ∧ W.drew.frozen? ⟨n + 1, 1, none⟩ = false ∧ W.drew.frozen? ⟨n + 1, 2, none⟩ = false ∧ Below n w W.drew := by
  obtain ⟨c0_0, c0_1, c0_2, c1_0, c1_1, c1_2, l0, l1, f0_0, f0_1, f0_2, f1_0, f1_1, f1_2, hB⟩ := h
  exact ⟨c0_0, c0_1, c0_2, c1_0, c1_1, c1_2, l0, l1, f0_0, f0_1, f0_2, f1_0, f1_1, f1_2, hB.drew⟩
set_option maxRecDepth 100000 in
set_option maxHeartbeats 8000000 in
theorem revParse_any (s : ByteArray) (w : World) (hs : s.size ≤ 4000000000) : Calls Tryz.prog 137 #[.string s] w fun r w' => r = .returned (parseV s.toList) ∧ Below w.heap.size w w' := by
  have S0 := new_pe w
  dsimp only at S0
  have hI := hs
  obtain ⟨R, hR⟩ : ∃ R, R = parseV s.toList := ⟨_, rfl⟩
  rw [← hR]
  have HR := Lib.hid hR
  clear hR
  by_cases hl : 200 < s.size
  · have hl2 : (200 : Int) < (s.size : Int) := by omega
    obtain rfl : R = .tuple #[.agg #[.int .i64 0, .string ⟨#[]⟩, .string ⟨#[]⟩], .int .i64 4] := HR.out.trans (by rw [parseV_r]; unfold rOf; rw [if_pos (by rw [size_toList]; exact hl)]; rfl)
    clear S0 HR hI
    go_enter Tryz.func137, Tryz.ntmps137
    go_wp2_with fail
    exact bodyPost_ret (v := .tuple #[.agg #[.int .i64 0, .string ⟨#[]⟩, .string ⟨#[]⟩], .int .i64 4]) (by simp [results, Tryz.results137, go_sem]) rfl ⟨rfl, (Below.refl _ _).alloc (Nat.le_refl _) _⟩
  have hl2 : ¬ (200 : Int) < (s.size : Int) := by omega
  have hsl : s.toList.length ≤ 200 := by rw [size_toList]; omega
  have CC := Lib.hid (fun W => rcut_any s 58 W (by omega))
  have cl := cut_lens s.toList 58
  rw [show ((58 : UInt8).toNat : Int) = 58 from rfl] at CC
  obtain ⟨A, hA⟩ : ∃ A, A = bs (Lib.cut s.toList [58]).1 := ⟨_, rfl⟩
  obtain ⟨B, hBB⟩ : ∃ B, B = bs (Lib.cut s.toList [58]).2.1 := ⟨_, rfl⟩
  obtain ⟨q3, hq3⟩ : ∃ q, q = (Lib.cut s.toList [58]).2.2 := ⟨_, rfl⟩
  rw [← hA, ← hBB, ← hq3] at CC
  have hAl : A.toList = (Lib.cut s.toList [58]).1 := by rw [hA, bs_toList]
  have hBl : B.toList = (Lib.cut s.toList [58]).2.1 := by rw [hBB, bs_toList]
  cases q3 with
  | false =>
    have hcA : A = s := by
      rw [hA]
      rcases cut_cases 58 s.toList with ⟨a, b, e, hn⟩ | hn
      · rw [e, cut_here hn] at hq3; cases hq3
      · rw [cut_no hn]; exact bs_of s
    subst hcA
    have hrf : rOf A.toList = rfin (0) A.toList := by unfold rOf; rw [if_neg (by omega), if_neg (by rw [← hq3]; decide)]
    obtain ⟨v1, hv1⟩ : ∃ x, x = bs (Lib.cut A.toList [45]).1 := ⟨_, rfl⟩
    obtain ⟨v2, hv2⟩ : ∃ x, x = bs (Lib.cut A.toList [45]).2.1 := ⟨_, rfl⟩
    obtain ⟨v3, hv3⟩ : ∃ x, x = (Lib.cut A.toList [45]).2.2 := ⟨_, rfl⟩
    obtain ⟨E, hE⟩ : ∃ E, E = behind (0) A.toList := ⟨_, rfl⟩
    have hev : E.val = .agg #[.int .i64 (0), .string v1, .string v2] := by rw [hE, hv1, hv2]; rfl
    obtain ⟨mb, hmb⟩ : ∃ m, m = mayB E true := ⟨_, rfl⟩
    have h22 : v2.toList = (Lib.cut A.toList [45]).2.1 := by rw [hv2, bs_toList]
    have R1 := Lib.hid (fun (h : v3 = true ∧ v2.toList = []) => show parseV A.toList = .tuple #[.agg #[.int .i64 0, .string ⟨#[]⟩, .string ⟨#[]⟩], .int .i64 4] from by rw [parseV_r, hrf]; unfold rfin; rw [if_pos (.inl ⟨by rw [← hv3]; exact h.1, by rw [← h22]; exact h.2⟩)]; rfl)
    have R2 := Lib.hid (fun (h : ¬ (v3 = true ∧ v2.toList = [])) (hm : mb = false) => show parseV A.toList = .tuple #[.agg #[.int .i64 0, .string ⟨#[]⟩, .string ⟨#[]⟩], .int .i64 4] from by rw [parseV_r, hrf]; unfold rfin; rw [if_pos (.inr (by rw [← hE, ← hmb]; exact hm))]; rfl)
    have R3 := Lib.hid (fun (h : ¬ (v3 = true ∧ v2.toList = [])) (hm : mb = true) => show parseV A.toList = .tuple #[.agg #[.int .i64 (0), .string v1, .string v2], .int .i64 0] from by rw [parseV_r, hrf]; unfold rfin; rw [if_neg (fun g => g.elim (fun g => h ⟨by rw [hv3]; exact g.1, by rw [h22]; exact g.2⟩) (fun g => by rw [← hE, ← hmb, hm] at g; cases g)), ← hE]; dsimp only; rw [hev])
    have MA := Lib.hid (fun W => revMay_any E true W (by rw [hE]; exact behind_wf (by exact (show (Lit.int .i64 0).wf = true by decide)) (by exact (show A.toList.length ≤ 4000000000 by omega))))
    rw [hev, ← hmb] at MA
    have C1 := Lib.hid (fun W => rcut_any A 45 W (by omega))
    rw [show ((45 : UInt8).toNat : Int) = 45 from rfl, ← hv1, ← hv2, ← hv3] at C1
    clear hrf hv1 hv2 hv3 hE hev hmb h22 hq3 hA hBB hAl hBl cl hsl hl hI hs
    go_enter Tryz.func137, Tryz.ntmps137
    go_wp2_with fail
    go_at_call 173
    generalize (w.alloc (.cells #[.int .i64 0, .string ⟨#[]⟩, .string ⟨#[]⟩] 24)).alloc (.cells #[.int .i64 0, .string ⟨#[]⟩, .string ⟨#[]⟩] 24) = W at *
    generalize hn : w.heap.size = n at *
    obtain ⟨c0_0, c0_1, c0_2, c1_0, c1_1, c1_2, l0, l1, f0_0, f0_1, f0_2, f1_0, f1_1, f1_2, hB⟩ := id S0
    refine (CC.out _).mono ?_
    rintro e1 w1 ⟨rfl, h⟩
    have S1 := keep_pe S0 h
    clear c0_0 c0_1 c0_2 c1_0 c1_1 c1_2 l0 l1 f0_0 f0_1 f0_2 f1_0 f1_1 f1_2 hB
    clear S0 h
    obtain ⟨c0_0, c0_1, c0_2, c1_0, c1_1, c1_2, l0, l1, f0_0, f0_1, f0_2, f1_0, f1_1, f1_2, hB⟩ := id S1
    go_wp2_with fail
    go_at_call 173
    refine (C1.out _).mono ?_
    rintro e4 w4 ⟨rfl, h⟩
    have S2 := keep_pe S1 h
    clear c0_0 c0_1 c0_2 c1_0 c1_1 c1_2 l0 l1 f0_0 f0_1 f0_2 f1_0 f1_1 f1_2 hB
    clear S1 h
    obtain ⟨c0_0, c0_1, c0_2, c1_0, c1_1, c1_2, l0, l1, f0_0, f0_1, f0_2, f1_0, f1_1, f1_2, hB⟩ := id S2
    by_cases dd : v3 = true ∧ v2.toList = []
    · obtain ⟨rfl, d2⟩ := dd
      obtain rfl : R = .tuple #[.agg #[.int .i64 0, .string ⟨#[]⟩, .string ⟨#[]⟩], .int .i64 4] := HR.out.trans (R1.out ⟨rfl, d2⟩)
      clear R1 R2 R3 HR MA
      go_wp2_with fail
      have S3 := set_pe02 (set_pe01 (set_pe00 (set_pe12 (set_pe11 S2 (.string v1)) (.string v2)) (.int .i64 0)) (.string ⟨#[]⟩)) (.string ⟨#[]⟩)
      generalize ((((w4.setCell { block := n + 1, off := 1 } (Value.string v1)).setCell { block := n + 1, off := 2 } (Value.string v2)).setCell { block := n, off := 0 } (Value.int IntKind.i64 0)).setCell { block := n, off := 1 } (Value.string { data := #[] })).setCell { block := n, off := 2 } (Value.string { data := #[] }) = U at *
      clear c0_0 c0_1 c0_2 c1_0 c1_1 c1_2 l0 l1 f0_0 f0_1 f0_2 f1_0 f1_1 f1_2 hB
      obtain ⟨c0_0, c0_1, c0_2, c1_0, c1_1, c1_2, l0, l1, f0_0, f0_1, f0_2, f1_0, f1_1, f1_2, hB⟩ := id S3
      exact bodyPost_ret (v := .tuple #[.agg #[.int .i64 0, .string ⟨#[]⟩, .string ⟨#[]⟩], .int .i64 4]) (by simp [results, Tryz.results137, go_sem, c0_0, c0_1, c0_2]) rfl ⟨rfl, by first | exact hB | (rw [hn]; exact hB)⟩
    have dd2 : v3 = false ∨ (v3 = true ∧ ¬ v2.toList = [] ∧ v2.toList.isEmpty = false) := by
      cases v3
      · exact .inl rfl
      · exact .inr ⟨rfl, fun h => dd ⟨rfl, h⟩, by simpa using fun h => dd ⟨rfl, h⟩⟩
    have R22 := R2.out dd
    have R33 := R3.out dd
    clear R1 R2 R3 dd
    have RF := Lib.hid R22
    have RG := Lib.hid R33
    clear R22 R33
    rcases dd2 with rfl | ⟨rfl, d1, d2⟩
    all_goals
      go_wp2_with fail
      go_at_call 114
      have S3 := set_pe12 (set_pe11 S2 (.string v1)) (.string v2)
      generalize (w4.setCell { block := n + 1, off := 1 } (Value.string v1)).setCell { block := n + 1, off := 2 } (Value.string v2) = x3 at *
      clear c0_0 c0_1 c0_2 c1_0 c1_1 c1_2 l0 l1 f0_0 f0_1 f0_2 f1_0 f1_1 f1_2 hB
      clear S2
      obtain ⟨c0_0, c0_1, c0_2, c1_0, c1_1, c1_2, l0, l1, f0_0, f0_1, f0_2, f1_0, f1_1, f1_2, hB⟩ := id S3
      refine (MA.out _).mono ?_
      rintro e5 w5 ⟨rfl, h⟩
      have S4 := keep_pe S3 h
      clear c0_0 c0_1 c0_2 c1_0 c1_1 c1_2 l0 l1 f0_0 f0_1 f0_2 f1_0 f1_1 f1_2 hB
      clear S3 h
      obtain ⟨c0_0, c0_1, c0_2, c1_0, c1_1, c1_2, l0, l1, f0_0, f0_1, f0_2, f1_0, f1_1, f1_2, hB⟩ := id S4
      cases mb with
      | false =>
        obtain rfl : R = .tuple #[.agg #[.int .i64 0, .string ⟨#[]⟩, .string ⟨#[]⟩], .int .i64 4] := HR.out.trans (RF.out rfl)
        clear RF RG HR MA
        go_wp2_with fail
        have SF := set_pe02 (set_pe01 (set_pe00 S4 (.int .i64 0)) (.string ⟨#[]⟩)) (.string ⟨#[]⟩)
        generalize ((w5.setCell { block := n, off := 0 } (Value.int IntKind.i64 0)).setCell { block := n, off := 1 } (Value.string { data := #[] })).setCell { block := n, off := 2 } (Value.string { data := #[] }) = U at *
        clear c0_0 c0_1 c0_2 c1_0 c1_1 c1_2 l0 l1 f0_0 f0_1 f0_2 f1_0 f1_1 f1_2 hB
        obtain ⟨c0_0, c0_1, c0_2, c1_0, c1_1, c1_2, l0, l1, f0_0, f0_1, f0_2, f1_0, f1_1, f1_2, hB⟩ := id SF
        exact bodyPost_ret (v := .tuple #[.agg #[.int .i64 0, .string ⟨#[]⟩, .string ⟨#[]⟩], .int .i64 4]) (by simp [results, Tryz.results137, go_sem, c0_0, c0_1, c0_2]) rfl ⟨rfl, by first | exact hB | (rw [hn]; exact hB)⟩
      | true =>
        obtain rfl : R = .tuple #[.agg #[.int .i64 0, .string v1, .string v2], .int .i64 0] := HR.out.trans (RG.out rfl)
        clear RF RG HR MA
        go_wp2_with fail
        have SF := set_pe02 (set_pe01 (set_pe00 S4 (.int .i64 0)) (.string v1)) (.string v2)
        generalize ((w5.setCell { block := n, off := 0 } (Value.int IntKind.i64 0)).setCell { block := n, off := 1 } (Value.string v1)).setCell { block := n, off := 2 } (Value.string v2) = U at *
        clear c0_0 c0_1 c0_2 c1_0 c1_1 c1_2 l0 l1 f0_0 f0_1 f0_2 f1_0 f1_1 f1_2 hB
        obtain ⟨c0_0, c0_1, c0_2, c1_0, c1_1, c1_2, l0, l1, f0_0, f0_1, f0_2, f1_0, f1_1, f1_2, hB⟩ := id SF
        exact bodyPost_ret (v := .tuple #[.agg #[.int .i64 0, .string v1, .string v2], .int .i64 0]) (by simp [results, Tryz.results137, go_sem, c0_0, c0_1, c0_2]) rfl ⟨rfl, by first | exact hB | (rw [hn]; exact hB)⟩
  | true =>
    have hr0 : rOf s.toList = if rnum A.toList = true then rfin (vfrom 0 A.toList : Nat) B.toList else none := by unfold rOf; rw [if_neg (by omega), if_pos hq3.symm, ← hAl, ← hBl]
    have RN := Lib.hid (fun (h : rnum A.toList = false) => show parseV s.toList = .tuple #[.agg #[.int .i64 0, .string ⟨#[]⟩, .string ⟨#[]⟩], .int .i64 4] from by rw [parseV_r, hr0, if_neg (by rw [h]; decide)]; rfl)
    have RY := Lib.hid (fun (h : rnum A.toList = true) => show rOf s.toList = rfin (vfrom 0 A.toList : Nat) B.toList from by rw [hr0, if_pos h])
    have hAs : A.size ≤ 200 := by rw [← size_toList, hAl]; omega
    have hBs : B.size ≤ 200 := by rw [← size_toList, hBl]; omega
    have HP := Lib.hid (show ∀ c, evOf s.toList = c → True from fun _ _ => trivial)
    clear hA hBB hq3 hAl hBl cl hsl hl hr0 hI hs
    by_cases z0 : A.size = 0
    · obtain rfl : R = .tuple #[.agg #[.int .i64 0, .string ⟨#[]⟩, .string ⟨#[]⟩], .int .i64 4] := HR.out.trans (RN.out (rnum_no1 (.inl z0)))
      have z1 : (A.size : Int) < 1 := by omega
      clear RN RY HR z0 HP
      go_enter Tryz.func137, Tryz.ntmps137
      go_wp2_with fail
      go_at_call 173
      generalize (w.alloc (.cells #[.int .i64 0, .string ⟨#[]⟩, .string ⟨#[]⟩] 24)).alloc (.cells #[.int .i64 0, .string ⟨#[]⟩, .string ⟨#[]⟩] 24) = W at *
      generalize hn : w.heap.size = n at *
      obtain ⟨c0_0, c0_1, c0_2, c1_0, c1_1, c1_2, l0, l1, f0_0, f0_1, f0_2, f1_0, f1_1, f1_2, hB⟩ := id S0
      refine (CC.out _).mono ?_
      rintro e1 w1 ⟨rfl, h⟩
      have S1 := keep_pe S0 h
      clear c0_0 c0_1 c0_2 c1_0 c1_1 c1_2 l0 l1 f0_0 f0_1 f0_2 f1_0 f1_1 f1_2 hB
      clear S0 h
      obtain ⟨c0_0, c0_1, c0_2, c1_0, c1_1, c1_2, l0, l1, f0_0, f0_1, f0_2, f1_0, f1_1, f1_2, hB⟩ := id S1
      go_wp2_with fail
      have SF := set_pe02 (set_pe01 (set_pe00 S1 (.int .i64 0)) (.string ⟨#[]⟩)) (.string ⟨#[]⟩)
      generalize ((w1.setCell { block := n, off := 0 } (Value.int IntKind.i64 0)).setCell { block := n, off := 1 } (Value.string { data := #[] })).setCell { block := n, off := 2 } (Value.string { data := #[] }) = U at *
      clear c0_0 c0_1 c0_2 c1_0 c1_1 c1_2 l0 l1 f0_0 f0_1 f0_2 f1_0 f1_1 f1_2 hB
      obtain ⟨c0_0, c0_1, c0_2, c1_0, c1_1, c1_2, l0, l1, f0_0, f0_1, f0_2, f1_0, f1_1, f1_2, hB⟩ := id SF
      exact bodyPost_ret (v := .tuple #[.agg #[.int .i64 0, .string ⟨#[]⟩, .string ⟨#[]⟩], .int .i64 4]) (by simp [results, Tryz.results137, go_sem, c0_0, c0_1, c0_2]) rfl ⟨rfl, by first | exact hB | (rw [hn]; exact hB)⟩
    by_cases z2 : 10 < A.size
    · obtain rfl : R = .tuple #[.agg #[.int .i64 0, .string ⟨#[]⟩, .string ⟨#[]⟩], .int .i64 4] := HR.out.trans (RN.out (rnum_no1 (.inr z2)))
      have z1 : ¬ (A.size : Int) < 1 := by omega
      have z3 : (10 : Int) < (A.size : Int) := by omega
      clear RN RY HR z0 z2 HP
      go_enter Tryz.func137, Tryz.ntmps137
      go_wp2_with fail
      go_at_call 173
      generalize (w.alloc (.cells #[.int .i64 0, .string ⟨#[]⟩, .string ⟨#[]⟩] 24)).alloc (.cells #[.int .i64 0, .string ⟨#[]⟩, .string ⟨#[]⟩] 24) = W at *
      generalize hn : w.heap.size = n at *
      obtain ⟨c0_0, c0_1, c0_2, c1_0, c1_1, c1_2, l0, l1, f0_0, f0_1, f0_2, f1_0, f1_1, f1_2, hB⟩ := id S0
      refine (CC.out _).mono ?_
      rintro e1 w1 ⟨rfl, h⟩
      have S1 := keep_pe S0 h
      clear c0_0 c0_1 c0_2 c1_0 c1_1 c1_2 l0 l1 f0_0 f0_1 f0_2 f1_0 f1_1 f1_2 hB
      clear S0 h
      obtain ⟨c0_0, c0_1, c0_2, c1_0, c1_1, c1_2, l0, l1, f0_0, f0_1, f0_2, f1_0, f1_1, f1_2, hB⟩ := id S1
      go_wp2_with fail
      have SF := set_pe02 (set_pe01 (set_pe00 S1 (.int .i64 0)) (.string ⟨#[]⟩)) (.string ⟨#[]⟩)
      generalize ((w1.setCell { block := n, off := 0 } (Value.int IntKind.i64 0)).setCell { block := n, off := 1 } (Value.string { data := #[] })).setCell { block := n, off := 2 } (Value.string { data := #[] }) = U at *
      clear c0_0 c0_1 c0_2 c1_0 c1_1 c1_2 l0 l1 f0_0 f0_1 f0_2 f1_0 f1_1 f1_2 hB
      obtain ⟨c0_0, c0_1, c0_2, c1_0, c1_1, c1_2, l0, l1, f0_0, f0_1, f0_2, f1_0, f1_1, f1_2, hB⟩ := id SF
      exact bodyPost_ret (v := .tuple #[.agg #[.int .i64 0, .string ⟨#[]⟩, .string ⟨#[]⟩], .int .i64 4]) (by simp [results, Tryz.results137, go_sem, c0_0, c0_1, c0_2]) rfl ⟨rfl, by first | exact hB | (rw [hn]; exact hB)⟩
    have z1 : ¬ (A.size : Int) < 1 := by omega
    have z3 : ¬ (10 : Int) < (A.size : Int) := by omega
    have z4 : 0 < A.size := by omega
    have z5 : (0 : Int) < (A.size : Int) := by omega
    by_cases z6 : A[0].toNat = 48
    · obtain rfl : R = .tuple #[.agg #[.int .i64 0, .string ⟨#[]⟩, .string ⟨#[]⟩], .int .i64 4] := HR.out.trans (RN.out (rnum_no2 z4 z6))
      have z7 : (A[0].toNat : Int) = 48 := by omega
      have z8 : ((A[0].toNat : Int) == 48) = true := by simpa using z7
      clear RN RY HR z0 z2 z6 HP z7
      go_enter Tryz.func137, Tryz.ntmps137
      go_wp2_with fail
      go_at_call 173
      generalize (w.alloc (.cells #[.int .i64 0, .string ⟨#[]⟩, .string ⟨#[]⟩] 24)).alloc (.cells #[.int .i64 0, .string ⟨#[]⟩, .string ⟨#[]⟩] 24) = W at *
      generalize hn : w.heap.size = n at *
      obtain ⟨c0_0, c0_1, c0_2, c1_0, c1_1, c1_2, l0, l1, f0_0, f0_1, f0_2, f1_0, f1_1, f1_2, hB⟩ := id S0
      refine (CC.out _).mono ?_
      rintro e1 w1 ⟨rfl, h⟩
      have S1 := keep_pe S0 h
      clear c0_0 c0_1 c0_2 c1_0 c1_1 c1_2 l0 l1 f0_0 f0_1 f0_2 f1_0 f1_1 f1_2 hB
      clear S0 h
      obtain ⟨c0_0, c0_1, c0_2, c1_0, c1_1, c1_2, l0, l1, f0_0, f0_1, f0_2, f1_0, f1_1, f1_2, hB⟩ := id S1
      go_wp2_with fail
      have SF := set_pe02 (set_pe01 (set_pe00 S1 (.int .i64 0)) (.string ⟨#[]⟩)) (.string ⟨#[]⟩)
      generalize ((w1.setCell { block := n, off := 0 } (Value.int IntKind.i64 0)).setCell { block := n, off := 1 } (Value.string { data := #[] })).setCell { block := n, off := 2 } (Value.string { data := #[] }) = U at *
      clear c0_0 c0_1 c0_2 c1_0 c1_1 c1_2 l0 l1 f0_0 f0_1 f0_2 f1_0 f1_1 f1_2 hB
      obtain ⟨c0_0, c0_1, c0_2, c1_0, c1_1, c1_2, l0, l1, f0_0, f0_1, f0_2, f1_0, f1_1, f1_2, hB⟩ := id SF
      exact bodyPost_ret (v := .tuple #[.agg #[.int .i64 0, .string ⟨#[]⟩, .string ⟨#[]⟩], .int .i64 4]) (by simp [results, Tryz.results137, go_sem, c0_0, c0_1, c0_2]) rfl ⟨rfl, by first | exact hB | (rw [hn]; exact hB)⟩
    have z7 : ¬ (A[0].toNat : Int) = 48 := by omega
    have z8 : ((A[0].toNat : Int) == 48) = false := by simpa using z7
    go_enter Tryz.func137, Tryz.ntmps137
    go_wp2_with fail
    go_at_call 173
    generalize (w.alloc (.cells #[.int .i64 0, .string ⟨#[]⟩, .string ⟨#[]⟩] 24)).alloc (.cells #[.int .i64 0, .string ⟨#[]⟩, .string ⟨#[]⟩] 24) = W at *
    generalize hn : w.heap.size = n at *
    obtain ⟨c0_0, c0_1, c0_2, c1_0, c1_1, c1_2, l0, l1, f0_0, f0_1, f0_2, f1_0, f1_1, f1_2, hB⟩ := id S0
    refine (CC.out _).mono ?_
    rintro e1 w1 ⟨rfl, h⟩
    have S1 := keep_pe S0 h
    clear c0_0 c0_1 c0_2 c1_0 c1_1 c1_2 l0 l1 f0_0 f0_1 f0_2 f1_0 f1_1 f1_2 hB
    clear S0 h
    obtain ⟨c0_0, c0_1, c0_2, c1_0, c1_1, c1_2, l0, l1, f0_0, f0_1, f0_2, f1_0, f1_1, f1_2, hB⟩ := id S1
    go_wp2_with fail
    clear z7 z8
    go_loopw [9] (fun i wr => ∃ k : Nat, k ≤ A.size ∧ i = .int .i64 (k : Int) ∧ Hid (∀ c ∈ A.toList.take k, dgt c = true) ∧ Hid (wr.cell? ⟨n, 0, none⟩ = some (.int .i64 0) ∧ wr.cell? ⟨n, 1, none⟩ = some (.string ⟨#[]⟩) ∧ wr.cell? ⟨n, 2, none⟩ = some (.string ⟨#[]⟩) ∧ wr.cell? ⟨n + 1, 0, none⟩ = some (.int .i64 (vfrom 0 (A.toList.take k) : Nat)) ∧ wr.cell? ⟨n + 1, 1, none⟩ = some (.string ⟨#[]⟩) ∧ wr.cell? ⟨n + 1, 2, none⟩ = some (.string ⟨#[]⟩) ∧ n < wr.heap.size ∧ n + 1 < wr.heap.size ∧ wr.frozen? ⟨n, 0, none⟩ = false ∧ wr.frozen? ⟨n, 1, none⟩ = false ∧ wr.frozen? ⟨n, 2, none⟩ = false ∧ wr.frozen? ⟨n + 1, 0, none⟩ = false ∧ wr.frozen? ⟨n + 1, 1, none⟩ = false ∧ wr.frozen? ⟨n + 1, 2, none⟩ = false ∧ Below n w wr)) (fun i _ => A.size - (intOf i).toNat)
    case atStart => exact ⟨0, by omega, rfl, Lib.hid (by simp), Lib.hid (by rw [List.take_zero, vfrom_nil]; exact S1)⟩
    case round =>
      clear c0_0 c0_1 c0_2 c1_0 c1_1 c1_2 l0 l1 f0_0 f0_1 f0_2 f1_0 f1_1 f1_2 hB S1
      obtain ⟨k, hk, rfl, hD, hS⟩ := hrel
      rename World => wr
      have hvl := vfrom_lt 10 (A.toList.take k) (by rw [List.length_take, size_toList]; omega) hD.out
      by_cases hlt : k < A.size
      · have HT := Lib.hid (toList_take_succ A k hlt)
        have HNX := Lib.hid (show vfrom 0 (A.toList.take (k + 1)) = vfrom 0 (A.toList.take k) * 10 + (A[k].toNat - 48) from by rw [HT.out, vfrom_app, vfrom_cons, vfrom_nil])
        obtain ⟨v, hv⟩ : ∃ v, v = vfrom 0 (A.toList.take k) := ⟨_, rfl⟩
        rw [← hv] at hS hvl HNX
        have hv2 : (v : Int) < 10000000000 := by omega
        have hkl : (k : Int) < (A.size : Int) := by omega
        have hk0 : (0 : Int) ≤ (k : Int) := by omega
        have hb := byte_lt A[k]
        clear hv hvl
        obtain ⟨c0_0, c0_1, c0_2, c1_0, c1_1, c1_2, l0, l1, f0_0, f0_1, f0_2, f1_0, f1_1, f1_2, hB⟩ := id hS.out
        cases dg : dgt A[k] with
        | true =>
          have dg2 := dg
          unfold dgt at dg2
          have dg2 := of_decide_eq_true dg2
          have d1 : ¬ (A[k].toNat : Int) < 48 := by omega
          have d2 : ¬ (57 : Int) < (A[k].toNat : Int) := by omega
          have HD2 := Lib.hid (show ∀ c ∈ A.toList.take (k + 1), dgt c = true from by rw [HT.out]; exact fun c hm => (List.mem_append.1 hm).elim (hD.out c) (fun h => by rw [List.mem_singleton.1 h]; exact dg))
          have HNY := Lib.hid (show (v : Int) * 10 + ((A[k].toNat : Int) - 48) = ((vfrom 0 (A.toList.take (k + 1)) : Nat) : Int) from by have := HNX.out; omega)
          have w1' : IntKind.u8.wrap ((A[k].toNat : Int) - 48) = (A[k].toNat : Int) - 48 := by unfold IntKind.wrap; simp [IntKind.signed, IntKind.bits]; omega
          have w2' : IntKind.i64.wrap ((A[k].toNat : Int) - 48) = (A[k].toNat : Int) - 48 := by rw [IntWalk.i64_in _ (by omega)]
          have w3' : IntKind.i64.wrap ((v : Int) * 10) = (v : Int) * 10 := by rw [IntWalk.i64_in _ (by omega)]
          have w4' : IntKind.i64.wrap ((v : Int) * 10 + ((A[k].toNat : Int) - 48)) = (v : Int) * 10 + ((A[k].toNat : Int) - 48) := by rw [IntWalk.i64_in _ (by omega)]
          clear dg dg2 HT HNX hD hb hv2
          go_wp2_with fail
          go_region
          go_wp2_with fail
          clear w1' w2' w3' w4'
          go_roundw
          case rel => exact ⟨k + 1, by omega, by go_num, HD2, Lib.hid (by rw [← HNY.out]; exact drew_pe (set_pe10 hS.out _))⟩
          case measure => simp [intOf]; omega
        | false =>
          obtain rfl : R = .tuple #[.agg #[.int .i64 0, .string ⟨#[]⟩, .string ⟨#[]⟩], .int .i64 4] := HR.out.trans (RN.out (rnum_no3 hlt dg))
          have dg2 := dg
          unfold dgt at dg2
          have dg2 := of_decide_eq_false dg2
          have S1 := hS.out
          clear RN RY HR HP HT HNX hD hb hv2 dg hS
          by_cases d1 : (A[k].toNat : Int) < 48
          · clear dg2
            go_wp2_with fail
            have SF := set_pe02 (set_pe01 (set_pe00 S1 (.int .i64 0)) (.string ⟨#[]⟩)) (.string ⟨#[]⟩)
            generalize ((wr.setCell { block := n, off := 0 } (Value.int IntKind.i64 0)).setCell { block := n, off := 1 } (Value.string { data := #[] })).setCell { block := n, off := 2 } (Value.string { data := #[] }) = U at *
            clear c0_0 c0_1 c0_2 c1_0 c1_1 c1_2 l0 l1 f0_0 f0_1 f0_2 f1_0 f1_1 f1_2 hB
            obtain ⟨c0_0, c0_1, c0_2, c1_0, c1_1, c1_2, l0, l1, f0_0, f0_1, f0_2, f1_0, f1_1, f1_2, hB⟩ := id SF
            exact bodyPost_ret (v := .tuple #[.agg #[.int .i64 0, .string ⟨#[]⟩, .string ⟨#[]⟩], .int .i64 4]) (by simp [results, Tryz.results137, go_sem, c0_0, c0_1, c0_2]) rfl ⟨rfl, by first | exact hB | (rw [hn]; exact hB)⟩
          · have d2 : (57 : Int) < (A[k].toNat : Int) := by omega
            clear dg2
            go_wp2_with fail
            have SF := set_pe02 (set_pe01 (set_pe00 S1 (.int .i64 0)) (.string ⟨#[]⟩)) (.string ⟨#[]⟩)
            generalize ((wr.setCell { block := n, off := 0 } (Value.int IntKind.i64 0)).setCell { block := n, off := 1 } (Value.string { data := #[] })).setCell { block := n, off := 2 } (Value.string { data := #[] }) = U at *
            clear c0_0 c0_1 c0_2 c1_0 c1_1 c1_2 l0 l1 f0_0 f0_1 f0_2 f1_0 f1_1 f1_2 hB
            obtain ⟨c0_0, c0_1, c0_2, c1_0, c1_1, c1_2, l0, l1, f0_0, f0_1, f0_2, f1_0, f1_1, f1_2, hB⟩ := id SF
            exact bodyPost_ret (v := .tuple #[.agg #[.int .i64 0, .string ⟨#[]⟩, .string ⟨#[]⟩], .int .i64 4]) (by simp [results, Tryz.results137, go_sem, c0_0, c0_1, c0_2]) rfl ⟨rfl, by first | exact hB | (rw [hn]; exact hB)⟩
      · have hks : k = A.size := by omega
        have ht : A.toList.take k = A.toList := by rw [hks, ← size_toList, List.take_length]
        rw [ht] at hS hD hvl
        have hrn := RY.out (rnum_of (by omega) (by omega) z6 hD.out)
        obtain ⟨v, hv⟩ : ∃ v, v = vfrom 0 A.toList := ⟨_, rfl⟩
        rw [← hv] at hS hvl hrn
        have hv2 : (v : Int) < 10000000000 := by omega
        have hBll : B.toList.length ≤ 200 := by rw [size_toList]; exact hBs
        have hkn : ¬ (k : Int) < (A.size : Int) := by omega
        have hrf : rOf s.toList = rfin ((v : Int)) B.toList := hrn
        obtain ⟨v1, hv1⟩ : ∃ x, x = bs (Lib.cut B.toList [45]).1 := ⟨_, rfl⟩
        obtain ⟨v2, hv2'⟩ : ∃ x, x = bs (Lib.cut B.toList [45]).2.1 := ⟨_, rfl⟩
        obtain ⟨v3, hv3⟩ : ∃ x, x = (Lib.cut B.toList [45]).2.2 := ⟨_, rfl⟩
        obtain ⟨E, hE⟩ : ∃ E, E = behind ((v : Int)) B.toList := ⟨_, rfl⟩
        have hev : E.val = .agg #[.int .i64 ((v : Int)), .string v1, .string v2] := by rw [hE, hv1, hv2']; rfl
        obtain ⟨mb, hmb⟩ : ∃ m, m = mayB E true := ⟨_, rfl⟩
        have h22 : v2.toList = (Lib.cut B.toList [45]).2.1 := by rw [hv2', bs_toList]
        have R1 := Lib.hid (fun (h : v3 = true ∧ v2.toList = []) => show parseV s.toList = .tuple #[.agg #[.int .i64 0, .string ⟨#[]⟩, .string ⟨#[]⟩], .int .i64 4] from by rw [parseV_r, hrf]; unfold rfin; rw [if_pos (.inl ⟨by rw [← hv3]; exact h.1, by rw [← h22]; exact h.2⟩)]; rfl)
        have R2 := Lib.hid (fun (h : ¬ (v3 = true ∧ v2.toList = [])) (hm : mb = false) => show parseV s.toList = .tuple #[.agg #[.int .i64 0, .string ⟨#[]⟩, .string ⟨#[]⟩], .int .i64 4] from by rw [parseV_r, hrf]; unfold rfin; rw [if_pos (.inr (by rw [← hE, ← hmb]; exact hm))]; rfl)
        have R3 := Lib.hid (fun (h : ¬ (v3 = true ∧ v2.toList = [])) (hm : mb = true) => show parseV s.toList = .tuple #[.agg #[.int .i64 ((v : Int)), .string v1, .string v2], .int .i64 0] from by rw [parseV_r, hrf]; unfold rfin; rw [if_neg (fun g => g.elim (fun g => h ⟨by rw [hv3]; exact g.1, by rw [h22]; exact g.2⟩) (fun g => by rw [← hE, ← hmb, hm] at g; cases g)), ← hE]; dsimp only; rw [hev])
        have MA := Lib.hid (fun W => revMay_any E true W (by rw [hE]; exact behind_wf (by exact (show (Lit.int .i64 (v : Int)).wf = true from WalkArith.wf_i64 (by omega))) (by exact (show B.toList.length ≤ 4000000000 by omega))))
        rw [hev, ← hmb] at MA
        have C1 := Lib.hid (fun W => rcut_any B 45 W (by omega))
        rw [show ((45 : UInt8).toNat : Int) = 45 from rfl, ← hv1, ← hv2', ← hv3] at C1
        have S1 := hS.out
        clear hv hrf hv1 hv2' hv3 hE hev hmb h22 hrn ht hks hD hvl hBll RN RY HP hS
        obtain ⟨c0_0, c0_1, c0_2, c1_0, c1_1, c1_2, l0, l1, f0_0, f0_1, f0_2, f1_0, f1_1, f1_2, hB⟩ := id S1
        go_wp2_with fail
        go_at_call 173
        refine (C1.out _).mono ?_
        rintro e4 w4 ⟨rfl, h⟩
        have S2 := keep_pe S1 h
        clear c0_0 c0_1 c0_2 c1_0 c1_1 c1_2 l0 l1 f0_0 f0_1 f0_2 f1_0 f1_1 f1_2 hB
        clear S1 h
        obtain ⟨c0_0, c0_1, c0_2, c1_0, c1_1, c1_2, l0, l1, f0_0, f0_1, f0_2, f1_0, f1_1, f1_2, hB⟩ := id S2
        by_cases dd : v3 = true ∧ v2.toList = []
        · obtain ⟨rfl, d2⟩ := dd
          obtain rfl : R = .tuple #[.agg #[.int .i64 0, .string ⟨#[]⟩, .string ⟨#[]⟩], .int .i64 4] := HR.out.trans (R1.out ⟨rfl, d2⟩)
          clear R1 R2 R3 HR MA
          go_wp2_with fail
          have S3 := set_pe02 (set_pe01 (set_pe00 (set_pe12 (set_pe11 S2 (.string v1)) (.string v2)) (.int .i64 0)) (.string ⟨#[]⟩)) (.string ⟨#[]⟩)
          generalize ((((w4.setCell { block := n + 1, off := 1 } (Value.string v1)).setCell { block := n + 1, off := 2 } (Value.string v2)).setCell { block := n, off := 0 } (Value.int IntKind.i64 0)).setCell { block := n, off := 1 } (Value.string { data := #[] })).setCell { block := n, off := 2 } (Value.string { data := #[] }) = U at *
          clear c0_0 c0_1 c0_2 c1_0 c1_1 c1_2 l0 l1 f0_0 f0_1 f0_2 f1_0 f1_1 f1_2 hB
          obtain ⟨c0_0, c0_1, c0_2, c1_0, c1_1, c1_2, l0, l1, f0_0, f0_1, f0_2, f1_0, f1_1, f1_2, hB⟩ := id S3
          exact bodyPost_ret (v := .tuple #[.agg #[.int .i64 0, .string ⟨#[]⟩, .string ⟨#[]⟩], .int .i64 4]) (by simp [results, Tryz.results137, go_sem, c0_0, c0_1, c0_2]) rfl ⟨rfl, by first | exact hB | (rw [hn]; exact hB)⟩
        have dd2 : v3 = false ∨ (v3 = true ∧ ¬ v2.toList = [] ∧ v2.toList.isEmpty = false) := by
          cases v3
          · exact .inl rfl
          · exact .inr ⟨rfl, fun h => dd ⟨rfl, h⟩, by simpa using fun h => dd ⟨rfl, h⟩⟩
        have R22 := R2.out dd
        have R33 := R3.out dd
        clear R1 R2 R3 dd
        have RF := Lib.hid R22
        have RG := Lib.hid R33
        clear R22 R33
        rcases dd2 with rfl | ⟨rfl, d1, d2⟩
        all_goals
          go_wp2_with fail
          go_at_call 114
          have S3 := set_pe12 (set_pe11 S2 (.string v1)) (.string v2)
          generalize (w4.setCell { block := n + 1, off := 1 } (Value.string v1)).setCell { block := n + 1, off := 2 } (Value.string v2) = x3 at *
          clear c0_0 c0_1 c0_2 c1_0 c1_1 c1_2 l0 l1 f0_0 f0_1 f0_2 f1_0 f1_1 f1_2 hB
          clear S2
          obtain ⟨c0_0, c0_1, c0_2, c1_0, c1_1, c1_2, l0, l1, f0_0, f0_1, f0_2, f1_0, f1_1, f1_2, hB⟩ := id S3
          refine (MA.out _).mono ?_
          rintro e5 w5 ⟨rfl, h⟩
          have S4 := keep_pe S3 h
          clear c0_0 c0_1 c0_2 c1_0 c1_1 c1_2 l0 l1 f0_0 f0_1 f0_2 f1_0 f1_1 f1_2 hB
          clear S3 h
          obtain ⟨c0_0, c0_1, c0_2, c1_0, c1_1, c1_2, l0, l1, f0_0, f0_1, f0_2, f1_0, f1_1, f1_2, hB⟩ := id S4
          cases mb with
          | false =>
            obtain rfl : R = .tuple #[.agg #[.int .i64 0, .string ⟨#[]⟩, .string ⟨#[]⟩], .int .i64 4] := HR.out.trans (RF.out rfl)
            clear RF RG HR MA
            go_wp2_with fail
            have SF := set_pe02 (set_pe01 (set_pe00 S4 (.int .i64 0)) (.string ⟨#[]⟩)) (.string ⟨#[]⟩)
            generalize ((w5.setCell { block := n, off := 0 } (Value.int IntKind.i64 0)).setCell { block := n, off := 1 } (Value.string { data := #[] })).setCell { block := n, off := 2 } (Value.string { data := #[] }) = U at *
            clear c0_0 c0_1 c0_2 c1_0 c1_1 c1_2 l0 l1 f0_0 f0_1 f0_2 f1_0 f1_1 f1_2 hB
            obtain ⟨c0_0, c0_1, c0_2, c1_0, c1_1, c1_2, l0, l1, f0_0, f0_1, f0_2, f1_0, f1_1, f1_2, hB⟩ := id SF
            exact bodyPost_ret (v := .tuple #[.agg #[.int .i64 0, .string ⟨#[]⟩, .string ⟨#[]⟩], .int .i64 4]) (by simp [results, Tryz.results137, go_sem, c0_0, c0_1, c0_2]) rfl ⟨rfl, by first | exact hB | (rw [hn]; exact hB)⟩
          | true =>
            obtain rfl : R = .tuple #[.agg #[.int .i64 (v : Int), .string v1, .string v2], .int .i64 0] := HR.out.trans (RG.out rfl)
            clear RF RG HR MA
            go_wp2_with fail
            have SF := set_pe02 (set_pe01 (set_pe00 S4 (.int .i64 (v : Int))) (.string v1)) (.string v2)
            generalize ((w5.setCell { block := n, off := 0 } (Value.int IntKind.i64 (v : Int))).setCell { block := n, off := 1 } (Value.string v1)).setCell { block := n, off := 2 } (Value.string v2) = U at *
            clear c0_0 c0_1 c0_2 c1_0 c1_1 c1_2 l0 l1 f0_0 f0_1 f0_2 f1_0 f1_1 f1_2 hB
            obtain ⟨c0_0, c0_1, c0_2, c1_0, c1_1, c1_2, l0, l1, f0_0, f0_1, f0_2, f1_0, f1_1, f1_2, hB⟩ := id SF
            exact bodyPost_ret (v := .tuple #[.agg #[.int .i64 (v : Int), .string v1, .string v2], .int .i64 0]) (by simp [results, Tryz.results137, go_sem, c0_0, c0_1, c0_2]) rfl ⟨rfl, by first | exact hB | (rw [hn]; exact hB)⟩
end Go.Proofs.YtnfagaccbkeikaaGreatDoor
