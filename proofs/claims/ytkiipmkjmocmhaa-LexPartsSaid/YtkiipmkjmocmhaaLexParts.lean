/- The walk of LexParts: the words of two texts with a space between. -/
import Derived.Test.YtkiipmkjmocmhaaLexBack
namespace Go.Proofs.Ytkiipmkjmocmhaa
open Go.RowKit Go.Shelf

def shift (k : Nat) (x : Tok) : Tok := (x.1 + k, x.2)
theorem toks_shift (l : Bytes) (k : Nat) : ∀ (p : Nat) (cur : Option Tok), toks (p + k) (cur.map (shift k)) l = (toks p cur l).map (shift k) := by
  induction l with
  | nil => intro p cur; cases cur <;> simp [toks, flushT]
  | cons c r ih =>
    intro p cur
    have h0 := ih (p + 1) none
    simp only [Option.map_none] at h0
    have e1 : p + k + 1 = p + 1 + k := by omega
    have tail : (if spc c then toks (p + 1 + k) none r else if brk c then (p + k, [c]) :: toks (p + 1 + k) none r else [(p + k, [])]) =
        (if spc c then toks (p + 1) none r else if brk c then (p, [c]) :: toks (p + 1) none r else [(p, [])]).map (shift k) := by
      split
      · exact h0
      · split
        · rw [h0]; rfl
        · rfl
    cases cur with
    | none =>
      simp only [Option.map_none, toks, e1]
      split
      · exact ih (p + 1) (some (p, [c]))
      · exact tail
    | some t =>
      obtain ⟨q, t⟩ := t
      simp only [Option.map_some, shift, toks, e1]
      split
      · exact ih (p + 1) (some (q, t ++ [c]))
      · rw [tail]; rfl
theorem toks_split (s t : Bytes) (h : ∀ c ∈ s, wrong c = false) : ∀ (p : Nat) (cur : Option Tok), toks p cur (s ++ 32 :: t) = toks p cur s ++ toks (p + s.length + 1) none t := by
  induction s with
  | nil =>
    intro p cur
    cases cur with
    | none => rw [List.nil_append, toks_spc (by decide)]; simp [toks, flushT]
    | some x =>
      obtain ⟨q, x⟩ := x
      have h1 : toks p (some (q, x)) (32 :: t) = (q, x) :: toks (p + 1) none t := by
        conv => lhs; rw [toks]
        rw [if_neg (by decide), if_pos (by decide)]
      rw [List.nil_append, h1]; simp [toks, flushT]
  | cons c r ih =>
    intro p cur
    have hr : ∀ d ∈ r, wrong d = false := fun d hd => h d (List.mem_cons_of_mem _ hd)
    have ih := ih hr (p + 1)
    have e1 : p + (c :: r).length + 1 = p + 1 + r.length + 1 := by simp; omega
    rw [e1, List.cons_append]
    rcases wrong_cases c with g | g | g | g
    · rw [h c List.mem_cons_self] at g; cases g
    · have hi : inn c = false := by cases hc : inn c with | false => rfl | true => rw [spc_inn hc] at g; cases g
      cases cur with
      | none => rw [toks_spc g, toks_spc g, ih]
      | some x => obtain ⟨q, x⟩ := x; rw [toks, if_neg (by simp [hi]), if_pos g, ih, toks, if_neg (by simp [hi]), if_pos g]; rfl
    · have hi : inn c = false := by cases hc : inn c with | false => rfl | true => rw [brk_inn hc] at g; cases g
      cases cur with
      | none => rw [toks_brk g, toks_brk g, ih]; rfl
      | some x => obtain ⟨q, x⟩ := x; rw [toks, if_neg (by simp [hi]), if_neg (by simp [spc_brk g]), if_pos g, ih, toks, if_neg (by simp [hi]), if_neg (by simp [spc_brk g]), if_pos g]; rfl
    · cases cur with
      | none => rw [toks, if_pos g, ih, toks, if_pos g]
      | some x => obtain ⟨q, x⟩ := x; rw [toks, if_pos g, ih, toks, if_pos g]
theorem badAt_split (s t : Bytes) : badAt (s ++ 32 :: t) = (badAt s).or ((badAt t).map (· + (s.length + 1))) := by
  unfold badAt
  rw [List.findIdx?_append, List.findIdx?_cons]
  have : wrong 32 = false := by decide
  simp only [this, if_false, Bool.false_eq_true]
  congr 1
  cases List.findIdx? wrong t with
  | none => rfl
  | some i => simp; omega
theorem words_unfold {l : Bytes} (h : l.length ≤ 4096) : (∃ i, badAt l = some i ∧ wordsS l = ([], i, 4)) ∨ (badAt l = none ∧ wordsS l = (toks 0 none l, 0, 0)) := by
  unfold wordsS
  rw [if_neg (by omega)]
  cases hb : badAt l with
  | some i => exact .inl ⟨i, rfl, rfl⟩
  | none => exact .inr ⟨rfl, rfl⟩
theorem parts_words (s t : Bytes) (hs : s.length ≤ 2000) (ht : t.length ≤ 2000) :
    (∃ p, wordsS s = ([], p, 4) ∧ wordsS (s ++ 32 :: t) = ([], p, 4)) ∨
    (∃ ys q, wordsS s = (ys, 0, 0) ∧ wordsS t = ([], q, 4) ∧ wordsS (s ++ 32 :: t) = ([], q + (s.length + 1), 4)) ∨
    (∃ ys zs, wordsS s = (ys, 0, 0) ∧ wordsS t = (zs, 0, 0) ∧ wordsS (s ++ 32 :: t) = (ys ++ zs.map (shift (s.length + 1)), 0, 0)) := by
  have h3 := words_unfold (l := s ++ 32 :: t) (by simp; omega)
  have hb := badAt_split s t
  rcases words_unfold (l := s) (by omega) with ⟨i, h1, h2⟩ | ⟨h1, h2⟩
  · refine .inl ⟨i, h2, ?_⟩
    rw [h1, Option.some_or] at hb
    rcases h3 with ⟨j, h4, h5⟩ | ⟨h4, h5⟩
    · rw [hb] at h4; cases h4; exact h5
    · rw [hb] at h4; cases h4
  · rw [h1, Option.none_or] at hb
    rcases words_unfold (l := t) (by omega) with ⟨j, h6, h7⟩ | ⟨h6, h7⟩
    · refine .inr (.inl ⟨_, j, h2, h7, ?_⟩)
      rw [h6, Option.map_some] at hb
      rcases h3 with ⟨k, h4, h5⟩ | ⟨h4, h5⟩
      · rw [hb] at h4; cases h4; exact h5
      · rw [hb] at h4; cases h4
    · refine .inr (.inr ⟨_, _, h2, h7, ?_⟩)
      rw [h6, Option.map_none] at hb
      rcases h3 with ⟨k, h4, h5⟩ | ⟨h4, h5⟩
      · rw [hb] at h4; cases h4
      · rw [h5, toks_split s t (fun c hc => noWrong h1 c hc), Nat.zero_add]
        have := toks_shift t (s.length + 1) 0 none
        rw [Nat.zero_add, Option.map_none] at this
        rw [this]
theorem words_at {l : Bytes} {ys : List Tok} (h : wordsS l = (ys, 0, 0)) : ∀ x ∈ ys, x.1 ≤ l.length := by
  unfold wordsS at h
  split at h
  · simp at h
  · split at h
    · simp at h
    · rename_i hb
      simp only [Prod.mk.injEq] at h
      obtain ⟨rfl, _⟩ := h
      intro x hx
      have := ((toks_chain _ l 0 none (Nat.le_refl _) (fun c hc => noWrong hb c hc) (.inl rfl)).lies x hx).2.1
      omega
theorem sp_toList : (ByteArray.mk #[32]).toList = [32] := bs_toList [32]

set_option maxHeartbeats 2000000 in
set_option maxRecDepth 100000 in
theorem parts_walk (w : World) (s : ByteArray) (hs : s.size ≤ maxLen) (t : ByteArray) (ht : t.size ≤ maxLen) :
    Calls Try.prog 8 #[.string s, .string t] w fun e w' => e = .returned (.bool true) ∧ Below w.heap.size w w' := by
  by_cases h0 : 2000 < s.size ∨ 2000 < t.size
  · have h1 : (2000 < s.size) ∨ (s.size ≤ 2000 ∧ 2000 < t.size) := by omega
    unfold maxLen at hs ht
    clear h0
    rcases h1 with h1 | ⟨h1, h2⟩
    all_goals
      go_enter Try.func8, Try.ntmps8
      go_wp2_with fail
      refine (works_ok _).mono ?_
      rintro e w1 ⟨rfl, hb1⟩
      go_wp2_with fail
      refine (works_ok _).mono ?_
      rintro e w2 ⟨rfl, hb2⟩
      go_wp2
      go_ret
      exact ⟨rfl, hb1.trans (hb2.mono hb1.size)⟩
  · have hls : s.size ≤ 2000 := by omega
    have hlt : t.size ≤ 2000 := by omega
    have hc := parts_words s.toList t.toList (by rw [size_toList]; exact hls) (by rw [size_toList]; exact hlt)
    have e1 : s.toList ++ 32 :: t.toList = (s ++ ByteArray.mk #[32] ++ t).toList := by rw [toList_append, toList_append, sp_toList]; simp
    have hsz : (s ++ ByteArray.mk #[32] ++ t).size ≤ maxLen := by
      rw [← size_toList, ← e1]
      simp only [List.length_append, List.length_cons, size_toList]
      unfold maxLen; omega
    rw [e1, size_toList] at hc
    clear h0 e1
    have hsx : s.size + (ByteArray.mk #[32]).size ≤ 9223372036854775807 := by
      have : (ByteArray.mk #[32]).size = 1 := rfl
      omega
    have hsy : (s ++ ByteArray.mk #[32]).size + t.size ≤ 9223372036854775807 := by
      have : (s ++ ByteArray.mk #[32]).size = s.size + 1 := by rw [← size_toList, toList_append, sp_toList]; simp [size_toList]
      omega
    rcases hc with ⟨p, h1, h3⟩ | ⟨ys, q, h1, h2, h3⟩ | ⟨ys, zs, h1, h2, h3⟩
    · have H1 := Lib.hid (fun W => words_is s W hs _ _ _ h1)
      have H2 := Lib.hid (fun W => words_is t W ht (wordsS t.toList).1 (wordsS t.toList).2.1 (wordsS t.toList).2.2 rfl)
      have H3 := Lib.hid (fun W => words_is _ W hsz _ _ _ h3)
      clear h1 h3 hsz
      go_enter Try.func8, Try.ntmps8
      go_wp2_with fail
      refine (works_ok _).mono ?_
      rintro e w1 ⟨rfl, hb1⟩
      go_wp2_with fail
      refine (H1.out _).mono ?_
      rintro e w2 ⟨C1, k1, rfl, hC1, hb2⟩
      go_wp2_with fail
      refine (H2.out _).mono ?_
      rintro e w3 ⟨C2, k2, rfl, hC2, hb3⟩
      go_wp2_with fail
      refine (H3.out _).mono ?_
      rintro e w4 ⟨C3, k3, rfl, hC3, hb4⟩
      go_wp2
      go_ret
      exact ⟨rfl, hb1.trans ((hb2.mono hb1.size).trans ((hb3.mono (Nat.le_trans hb1.size hb2.size)).trans (hb4.mono (Nat.le_trans (Nat.le_trans hb1.size hb2.size) hb3.size))))⟩
    · have H1 := Lib.hid (fun W => words_is s W hs _ _ _ h1)
      have H2 := Lib.hid (fun W => words_is t W ht _ _ _ h2)
      have H3 := Lib.hid (fun W => words_is _ W hsz _ _ _ h3)
      have hq : q ≤ t.size := by
        rcases words_unfold (l := t.toList) (by rw [size_toList]; omega) with ⟨i, g1, g2⟩ | ⟨g1, g2⟩
        · rw [h2] at g2
          have := (List.findIdx?_eq_some_iff_getElem.1 g1).1
          simp only [Prod.mk.injEq] at g2
          rw [size_toList] at this
          omega
        · rw [h2] at g2
          simp at g2
      clear h1 h2 h3 hsz
      go_enter Try.func8, Try.ntmps8
      go_wp2_with fail
      refine (works_ok _).mono ?_
      rintro e w1 ⟨rfl, hb1⟩
      go_wp2_with fail
      refine (H1.out _).mono ?_
      rintro e w2 ⟨C1, k1, rfl, hC1, hb2⟩
      go_wp2_with fail
      refine (H2.out _).mono ?_
      rintro e w3 ⟨C2, k2, rfl, hC2, hb3⟩
      go_wp2_with fail
      refine (H3.out _).mono ?_
      rintro e w4 ⟨C3, k3, rfl, hC3, hb4⟩
      go_wp2
      go_ret
      exact ⟨ret_bool (by simp; omega), hb1.trans ((hb2.mono hb1.size).trans ((hb3.mono (Nat.le_trans hb1.size hb2.size)).trans (hb4.mono (Nat.le_trans (Nat.le_trans hb1.size hb2.size) hb3.size))))⟩
    · have H1 := Lib.hid (fun W => words_is s W hs _ _ _ h1)
      have H2 := Lib.hid (fun W => words_is t W ht _ _ _ h2)
      have H3 := Lib.hid (fun W => words_is _ W hsz _ _ _ h3)
      have HQ := Lib.hid (words_at h2)
      clear h1 h2 h3 hsz
      have hvl : (ys ++ zs.map (shift (s.size + 1))).length = ys.length + zs.length := by simp
      have hv1 : ∀ (k : Nat) (h : k < ys.length) (h2 : k < (ys ++ zs.map (shift (s.size + 1))).length), (ys ++ zs.map (shift (s.size + 1)))[k] = ys[k] := fun k h h2 => List.getElem_append_left h
      have hv2 : ∀ (k : Nat) (h : k - ys.length < zs.length) (h2 : k < (ys ++ zs.map (shift (s.size + 1))).length), ys.length ≤ k → (ys ++ zs.map (shift (s.size + 1)))[k] = (zs[k - ys.length].1 + (s.size + 1), zs[k - ys.length].2) := fun k h h2 h3 => by
        rw [List.getElem_append_right h3, List.getElem_map]; rfl
      generalize ys ++ zs.map (shift (s.size + 1)) = vs at *
      have HV1 := Lib.hid hv1
      have HV2 := Lib.hid hv2
      have HVL := Lib.hid hvl
      clear hv1 hv2 hvl
      go_enter Try.func8, Try.ntmps8
      go_wp2_with fail
      refine (works_ok _).mono ?_
      rintro e w1 ⟨rfl, hb1⟩
      go_wp2_with fail
      refine (H1.out _).mono ?_
      rintro e w2 ⟨C1, k1, rfl, hC1, hb2⟩
      go_wp2_with fail
      refine (H2.out _).mono ?_
      rintro e w3 ⟨C2, k2, rfl, hC2, hb3⟩
      go_wp2_with fail
      refine (H3.out _).mono ?_
      rintro e w4 ⟨C3, k3, rfl, hC3, hb4⟩
      have hbb := hb1.trans ((hb2.mono hb1.size).trans ((hb3.mono (Nat.le_trans hb1.size hb2.size)).trans (hb4.mono (Nat.le_trans (Nat.le_trans hb1.size hb2.size) hb3.size))))
      have hD1 := (hC1.withB hb3).withB hb4
      have hD2 := hC2.withB hb4
      have hlen1 := hC1.len
      have hlen2 := hC2.len
      have hlen3 := hC3.len
      rw [HVL.out] at hlen3
      rw [HVL.out]
      go_wp2
      go_loopw [14] (fun i wr => ∃ k : Nat, k ≤ ys.length + zs.length ∧ i = .int .i64 k ∧ ∃ n, wr = w4.drewN n) (fun i _ => ys.length + zs.length - (intOf i).toNat)
      case atStart => exact ⟨0, Nat.zero_le _, rfl, 0, rfl⟩
      case round =>
        obtain ⟨k, hk, rfl, m, rfl⟩ := hrel
        by_cases hlv : k < ys.length + zs.length
        · have hlv2 : k < vs.length := by rw [HVL.out]; exact hlv
          obtain ⟨a3, o3, rfl, hl3, c3, c4⟩ := hC3.at2 (f := fun x => .string (bs x.2)) (g := fun x => .int .i64 (x.1 : Int)) (fun _ => rfl) hlv2
          have hx0 : (0 : Int) ≤ (k : Int) := by omega
          have hx1 : (k : Int) < (ys.length : Int) + (zs.length : Int) := by omega
          by_cases hka : k < ys.length
          · obtain ⟨a1, o1, rfl, hl1, c1, c2⟩ := hD1.at2 (f := fun x => .string (bs x.2)) (g := fun x => .int .i64 (x.1 : Int)) (fun _ => rfl) hka
            rw [HV1.out k hka hlv2] at c3 c4
            have hx2 : (k : Int) < (ys.length : Int) := by omega
            have hx3 : decide (k < ys.length) = true := by simpa using hka
            have hx4 : decide (ys.length ≤ k) = false := by simpa using hka
            go_wp2
            go_quiet (fail)
            go_wp2
            go_quiet (fail)
            go_wp2
            go_roundw
            case rel => exact ⟨k + 1, by omega, by go_num, _, rfl⟩
            case measure => simp [intOf]; omega
          · have hkb : k - ys.length < zs.length := by omega
            obtain ⟨a1, o1, rfl, hl1, c1, c2⟩ := hD2.at2 (f := fun x => .string (bs x.2)) (g := fun x => .int .i64 (x.1 : Int)) (fun _ => rfl) hkb
            have hqb := HQ.out _ (List.getElem_mem hkb)
            rw [size_toList] at hqb
            rw [HV2.out k hkb hlv2 (by omega)] at c3 c4
            generalize zs[k - ys.length] = x at *
            obtain ⟨q, t2⟩ := x
            dsimp only at *
            have hcast : ((q + (s.size + 1) : Nat) : Int) = (q : Int) + (s.size : Int) + 1 := by omega
            rw [hcast] at c4
            clear hcast
            have hx2 : (ys.length : Int) ≤ (k : Int) := by omega
            have hx3 : decide (k < ys.length) = false := by simpa using hka
            have hx4 : decide (ys.length ≤ k) = true := by simpa using hka
            have hx5 : IntKind.i64.wrap ((k : Int) - (ys.length : Int)) = (k : Int) - (ys.length : Int) := IntWalk.i64_in _ (by omega)
            have hx6 : ((k : Int) - (ys.length : Int)).toNat = k - ys.length := by omega
            have hx7 : (0 : Int) ≤ (k : Int) - (ys.length : Int) := by omega
            have hx8 : (k : Int) - (ys.length : Int) < (zs.length : Int) := by omega
            have hx9 : IntKind.i64.wrap ((q : Int) + (s.size : Int)) = (q : Int) + (s.size : Int) := IntWalk.i64_in _ (by omega)
            have hx10 : IntKind.i64.wrap ((q : Int) + (s.size : Int) + 1) = (q : Int) + (s.size : Int) + 1 := IntWalk.i64_in _ (by omega)
            go_wp2
            go_quiet (fail)
            go_wp2
            go_quiet (fail)
            go_wp2
            go_roundw
            case rel => exact ⟨k + 1, by omega, by go_num, _, rfl⟩
            case measure => simp [intOf]; omega
        · go_wp2
          go_ret
          exact ⟨rfl, below_drewN hbb m⟩
end Go.Proofs.Ytkiipmkjmocmhaa
