/- The walk of LexSpaces: with spaces more the words' texts are the same. -/
import Derived.Test.YtkiipmkjmocmhaaLexParts
namespace Go.Proofs.Ytkiipmkjmocmhaa
open Go.RowKit Go.Shelf

def spread (g : Nat) (ts : List Bytes) : Bytes := List.replicate g 32 ++ ts.flatMap (fun t => t ++ List.replicate g 32)
theorem spread_snoc (g : Nat) (ts : List Bytes) (t : Bytes) : spread g (ts ++ [t]) = spread g ts ++ t ++ List.replicate g 32 := by simp [spread]
theorem spread_good {g : Nat} {ts : List Bytes} (h : ∀ t ∈ ts, plainB t = true) : ∀ c ∈ spread g ts, wrong c = false := by
  have h32 : ∀ c ∈ List.replicate g (32 : UInt8), wrong c = false := by
    intro c hc
    rw [(List.mem_replicate.1 hc).2]; decide
  intro c hc
  simp only [spread, List.mem_append, List.mem_flatMap] at hc
  rcases hc with hc | ⟨t, ht, hc | hc⟩
  · exact h32 c hc
  · exact plainB_wrong (h t ht) c hc
  · exact h32 c hc
theorem toks_spread {g : Nat} (hg : 0 < g) {ts : List Bytes} (h : ∀ t ∈ ts, plainB t = true) : ∀ p, (toks p none (spread g ts)).map (·.2) = ts := by
  induction ts with
  | nil =>
    intro p
    have := toks_spaces g p []
    rw [List.append_nil] at this
    simp [spread, this, toks, flushT]
  | cons t r ih =>
    intro p
    have e : spread g (t :: r) = List.replicate g 32 ++ (t ++ spread g r) := by simp [spread]
    rw [e, toks_spaces, toks_word (h t List.mem_cons_self) (.inr (fun c s hc => ?_)), List.map_cons, ih (fun x hx => h x (List.mem_cons_of_mem _ hx))]
    obtain ⟨g, rfl⟩ : ∃ k, g = k + 1 := ⟨g - 1, by omega⟩
    simp only [spread, List.replicate_succ, List.cons_append, List.cons.injEq] at hc
    rw [← hc.1]; decide
theorem spread_len (g : Nat) (ts : List Bytes) : (spread g ts).length = g + (ts.map (fun t => t.length + g)).sum := by
  induction ts with
  | nil => simp [spread]
  | cons t r ih =>
    have e : spread g (t :: r) = List.replicate g 32 ++ (t ++ spread g r) := by simp [spread]
    rw [e]
    simp only [List.length_append, List.length_replicate, ih, List.map_cons, List.sum_cons]
    omega
theorem Chain.sum {prev : Option Bytes} {p : Nat} {l : Bytes} {ys : List Tok} (h : Chain prev p l ys) : (ys.map (fun x => x.2.length)).sum ≤ l.length ∧ ∀ x ∈ ys, plainB x.2 = true := by
  induction h with
  | done => simp
  | @word prev p g t rest r ht hg h ih =>
    refine ⟨by simp only [List.map_cons, List.sum_cons, List.length_append, List.length_replicate]; omega, ?_⟩
    intro x hx
    rcases List.mem_cons.1 hx with rfl | hx
    · exact ht
    · exact ih.2 x hx
theorem sum_bound (g : Nat) (ts : List Bytes) (h : ∀ t ∈ ts, plainB t = true) : (ts.map (fun t => t.length + g)).sum ≤ (ts.map (fun t => t.length)).sum * (g + 1) := by
  induction ts with
  | nil => simp
  | cons t r ih =>
    have h1 := ih (fun x hx => h x (List.mem_cons_of_mem _ hx))
    have h2 : 1 ≤ t.length := by
      have := plainB_ne (h t List.mem_cons_self)
      cases t with
      | nil => exact absurd rfl this
      | cons => simp
    simp only [List.map_cons, List.sum_cons, Nat.add_mul]
    have h3 : g ≤ t.length * g := Nat.le_mul_of_pos_left g h2
    generalize (r.map (fun t => t.length)).sum = S at *
    have h4 : S * (g + 1) = S * g + S := Nat.mul_succ S g
    have h5 : t.length * (g + 1) = t.length * g + t.length := Nat.mul_succ _ g
    omega
/-- What is known of the words of a text, spread and joined. -/
theorem spaces_words {s : Bytes} {ys : List Tok} (hl : s.length ≤ 300) (h : wordsS s = (ys, 0, 0)) (g : Nat) (hg : 0 < g) (hg4 : g ≤ 4) :
    (ys.map (·.2) : List Bytes).length ≤ 300 ∧ weigh (ys.map (·.2)) ≤ 600 ∧ (spread g (ys.map (·.2))).length ≤ 1504 ∧
    (∃ zs : List Tok, wordsS (spread g (ys.map (·.2))) = (zs, 0, 0) ∧ zs.map (·.2) = ys.map (·.2)) ∧ (∃ zs : List Tok, wordsS (joinS none (ys.map (·.2))) = (zs, 0, 0) ∧ zs.map (·.2) = ys.map (·.2)) := by
  rcases words_unfold (l := s) (by omega) with ⟨i, g1, g2⟩ | ⟨g1, g2⟩
  · rw [h] at g2; simp at g2
  · rw [h] at g2
    simp only [Prod.mk.injEq, and_true] at g2
    subst g2
    have hch := (toks_chain _ s 0 none (Nat.le_refl _) (fun c hc => noWrong g1 c hc) (.inl rfl)).sum
    have hpl : ∀ t ∈ (toks 0 none s).map (·.2), plainB t = true := by
      intro t ht
      obtain ⟨x, hx, rfl⟩ := List.mem_map.1 ht
      exact hch.2 x hx
    have hsum : (((toks 0 none s).map (·.2)).map (fun t => t.length)).sum ≤ 300 := by
      rw [List.map_map]
      exact Nat.le_trans hch.1 hl
    have hb1 := sum_bound 1 _ hpl
    have hbg := sum_bound g _ hpl
    have hm : (((toks 0 none s).map (·.2)).map (fun t => t.length)).sum * (g + 1) ≤ 300 * 5 := Nat.mul_le_mul hsum (by omega)
    have hsl := spread_len g ((toks 0 none s).map (·.2))
    have hw : weigh ((toks 0 none s).map (·.2)) ≤ 600 := by unfold weigh; omega
    have hn : ((toks 0 none s).map (·.2)).length ≤ 300 := by
      have := toks_len s 0 none
      simp [flushT] at this ⊢
      omega
    have hsp : (spread g ((toks 0 none s).map (·.2))).length ≤ 1504 := by omega
    refine ⟨hn, hw, hsp, ⟨toks 0 none (spread g ((toks 0 none s).map (·.2))), ?_, toks_spread hg hpl 0⟩, ⟨placed 0 none ((toks 0 none s).map (·.2)), ?_, placed_texts _ _ _⟩⟩
    · unfold wordsS
      rw [if_neg (by omega), badAt_none (spread_good hpl)]
    · exact words_join hpl (by have := joinS_len ((toks 0 none s).map (·.2)) none; omega)

set_option maxHeartbeats 400000 in
theorem many_one (k : Nat) (hk : k ≤ 5000) (c : UInt8) (w : World) :
    Calls Try.prog 13 #[.int .i64 (k : Int), .string (bs [c])] w fun e w' => e = .returned (.string (bs (List.replicate k c))) ∧ w = w' := by
  have h1 : (bs [c]).size = 1 := rfl
  have h2 : ∀ j, (bs (List.replicate j c)).size = j := fun j => by rw [← size_toList, bs_toList]; simp
  have H1 := Lib.hid h1
  have H2 := Lib.hid h2
  clear h1 h2
  go_enter Try.func13, Try.ntmps13
  go_wp2
  go_loop [5, 6] (fun o i => ∃ j : Nat, j ≤ k ∧ i = .int .i64 j ∧ o = .string (bs (List.replicate j c))) (fun _ i => k - (intOf i).toNat)
  case atStart => exact ⟨0, Nat.zero_le _, rfl, rfl⟩
  case round =>
    obtain ⟨j, hj, rfl, rfl⟩ := hrel
    by_cases hlt : j < k
    · have hsz : (bs (List.replicate j c)).size + (bs [c]).size ≤ 9223372036854775807 := by rw [H1.out, H2.out]; omega
      go_wp2
      go_round
      case rel => exact ⟨j + 1, by omega, by go_num, val_str (toList_inj (by rw [toList_append, bs_toList, bs_toList, bs_toList, List.replicate_succ']))⟩
      case measure => simp [intOf]; omega
    · obtain rfl : j = k := by omega
      go_wp2
      go_ret
      exact ⟨rfl, rfl⟩
theorem tok_same {xs ys : List Tok} (h : xs.map (·.2) = ys.map (·.2)) : ∀ (k : Nat) (h1 : k < xs.length) (h2 : k < ys.length), xs[k].2 = ys[k].2 := by
  intro k h1 h2
  have h3 : (xs.map (·.2))[k]'(by simpa using h1) = (ys.map (·.2))[k]'(by simpa using h2) := by simp only [h]
  simpa using h3
theorem Own.newer {α : Type} {enc : α → List Value} {size base : Nat} {e : TypeId} {v : Value} {l : List α} {w : World} (h : Own enc size base e v l w) {q : Nat} (hq : v.ownBlock = some q) : base ≤ q := (World.ownsRow.lt h q hq).1
theorem infoStr : (Try.prog.info? 9).map (fun i => (i.zero, i.size, i.bytes)) = some (some (.string ByteArray.empty), 1, 16) := by kernel_rfl

def stexts (l : List Tok) : List ByteArray := l.map (fun x => bs x.2)

theorem gap_is (n : Int) : ∃ g : Nat, 0 < g ∧ g ≤ 4 ∧ wrap64 (1 + wrap64 ((IntKind.u64.wrap n).tmod 4)) = (g : Int) := by
  have h0 : 0 ≤ IntKind.u64.wrap n := by
    have e : IntKind.u64.wrap n = n % 18446744073709551616 := by simp [IntKind.wrap, IntKind.bits, IntKind.signed]
    rw [e]
    exact Int.emod_nonneg _ (by omega)
  have h1 : 0 ≤ (IntKind.u64.wrap n).tmod 4 := Int.tmod_nonneg _ h0
  have h2 : (IntKind.u64.wrap n).tmod 4 < 4 := Int.tmod_lt_of_pos _ (by omega)
  rw [IntWalk.wrap64_in ((IntKind.u64.wrap n).tmod 4) ⟨by omega, by omega⟩, IntWalk.wrap64_in _ ⟨by omega, by omega⟩]
  exact ⟨(1 + (IntKind.u64.wrap n).tmod 4).toNat, by omega, by omega, by omega⟩
theorem stexts_snoc (ys : List Tok) (k : Nat) (h : k < ys.length) : stexts (ys.take (k + 1)) = stexts (ys.take k) ++ [bs ys[k].2] := by
  rw [take_snoc _ _ h]; unfold stexts; rw [List.map_append]; rfl
theorem wide_snoc (ys : List Tok) (g k : Nat) (h : k < ys.length) : spread g ((ys.take (k + 1)).map (·.2)) = spread g ((ys.take k).map (·.2)) ++ ys[k].2 ++ List.replicate g 32 := by
  rw [take_snoc _ _ h, List.map_append]; exact spread_snoc _ _ _
/-- how far the wide text is made -/
def wideTo (ys : List Tok) (g k : Nat) : ByteArray := bs (spread g ((ys.take k).map (·.2)))
theorem wideTo_succ (ys : List Tok) (g k : Nat) (h : k < ys.length) : wideTo ys g k ++ bs ys[k].2 ++ bs (List.replicate g 32) = wideTo ys g (k + 1) := by
  unfold wideTo
  apply toList_inj
  rw [toList_append, toList_append, bs_toList, bs_toList, bs_toList, bs_toList, wide_snoc ys g k h]
theorem wide_mono (g : Nat) (ts : List Bytes) (k : Nat) : (spread g (ts.take k)).length ≤ (spread g ts).length := by
  rw [spread_len, spread_len]
  have : ((ts.take k).map (fun t => t.length + g)).sum ≤ (ts.map (fun t => t.length + g)).sum := by
    induction ts generalizing k with
    | nil => simp
    | cons t r ih =>
      cases k with
      | zero => simp
      | succ k => have := ih k; simp only [List.take_succ_cons, List.map_cons, List.sum_cons]; omega
  omega
theorem wide_room (ys : List Tok) (g k : Nat) (h : (spread g (ys.map (·.2))).length ≤ 1504) (hk : k < ys.length) :
    (wideTo ys g k).size + (bs ys[k].2).size ≤ 9223372036854775807 ∧ (wideTo ys g k ++ bs ys[k].2).size + (bs (List.replicate g 32)).size ≤ 9223372036854775807 := by
  unfold wideTo
  have h1 := wide_mono g (ys.map (·.2)) (k + 1)
  rw [← List.map_take] at h1
  have h2 := congrArg List.length (wide_snoc ys g k hk)
  rw [List.length_append, List.length_append, List.length_replicate] at h2
  have e : (bs (spread g ((ys.take k).map (·.2))) ++ bs ys[k].2).size = (spread g ((ys.take k).map (·.2))).length + ys[k].2.length := by
    rw [← size_toList, toList_append, bs_toList, bs_toList, List.length_append]
  have e2 : (bs (List.replicate g (32 : UInt8))).size = g := by rw [← size_toList, bs_toList]; simp
  have e3 : ∀ l : Bytes, (bs l).size = l.length := fun l => by rw [← size_toList, bs_toList]
  rw [e, e2, e3, e3]
  omega
set_option maxHeartbeats 2000000 in
set_option maxRecDepth 100000 in
theorem spaces_walk (w : World) (s : ByteArray) (hs : s.size ≤ maxLen) (n : Int) (hn : (Lit.int .i64 n).wf = true) :
    Calls Try.prog 7 #[.string s, .int .i64 n] w fun e w' => e = .returned (.bool true) ∧ Below w.heap.size w w' := by
  by_cases h1 : 300 < s.size
  · unfold maxLen at hs
    go_enter Try.func7, Try.ntmps7
    go_wp2_with fail
    refine (works_ok _).mono ?_
    rintro e w1 ⟨rfl, hb1⟩
    go_wp2_with fail
    refine (works_ok _).mono ?_
    rintro e w2 ⟨rfl, hb2⟩
    go_wp2
    go_ret
    exact ⟨rfl, hb1.trans (hb2.mono hb1.size)⟩
  · have hl : s.size ≤ 300 := by omega
    rcases words_unfold (l := s.toList) (by rw [size_toList]; omega) with ⟨i, _, h2⟩ | ⟨_, h2⟩
    · have H1 := Lib.hid (fun W => words_is s W hs _ _ _ h2)
      clear h1 h2 hs
      go_enter Try.func7, Try.ntmps7
      go_wp2_with fail
      refine (works_ok _).mono ?_
      rintro e w1 ⟨rfl, hb1⟩
      go_wp2_with fail
      refine (H1.out _).mono ?_
      rintro e w2 ⟨C1, k1, rfl, hC1, hb2⟩
      go_wp2
      go_ret
      exact ⟨rfl, hb1.trans (hb2.mono hb1.size)⟩
    · obtain ⟨ys, hys⟩ : ∃ ys, toks 0 none s.toList = ys := ⟨_, rfl⟩
      rw [hys] at h2
      clear hys
      have HS := Lib.hid (fun g hg hg4 => spaces_words (by rw [size_toList]; exact hl) h2 g hg hg4)
      have H1 := Lib.hid (fun W => words_is s W hs _ _ _ h2)
      clear h1 h2 hs
      go_enter Try.func7, Try.ntmps7
      go_wp2_with fail
      refine (works_ok _).mono ?_
      rintro e w1 ⟨rfl, hb1⟩
      go_wp2_with fail
      refine (H1.out _).mono ?_
      rintro e w2 ⟨C1, k1, rfl, hC1, hb2⟩
      go_wp2_with fail
      obtain ⟨g, hg1, hg4, hge⟩ := gap_is n
      rw [hge]
      have HG := HS.out g hg1 hg4
      clear hge HS
      refine (many_one g (by omega) 32 _).mono ?_
      rintro e w3 ⟨rfl, rfl⟩
      obtain ⟨b1, b2, b3, ⟨zs, b4, b5⟩, ⟨xs, b6, b7⟩⟩ := HG
      have hb := hb1.trans (hb2.mono hb1.size)
      have hlen1 := hC1.len
      have hB2 := hb.size
      obtain ⟨i0, hi, hz0, hz1, hz2⟩ := info_parts infoStr
      have hyl : ys.length ≤ 300 := by simpa using b1
      have HW := Lib.hid (fun k (hk : k ≤ ys.length) => wide_room ys g k b3)
      have B2 := Lib.hid b2
      have B4 := Lib.hid b4
      have B5 := Lib.hid b5
      have B6 := Lib.hid b6
      have B7 := Lib.hid b7
      have B3 := Lib.hid b3
      clear b1 b2 b3 b4 b5 b6 b7
      go_wp2
      go_loopw [9, 10, 11] (fun o v i wr => ∃ k : Nat, k ≤ ys.length ∧ i = .int .i64 k ∧ o = .string (wideTo ys g k) ∧ Own encStr 1 w2.heap.size 9 v (stexts (ys.take k)) wr ∧ Below w2.heap.size w2 wr)
        (fun _ _ i _ => ys.length - (intOf i).toNat)
      case atStart => exact ⟨0, Nat.zero_le _, rfl, by simp [wideTo, spread], Own.nil_ _ _ _, Below.refl _ _⟩
      case round =>
        obtain ⟨k, hk, rfl, rfl, hown, hB⟩ := hrel
        have hBs := hB.size
        by_cases hlt : k < ys.length
        · obtain ⟨a1, o1, rfl, hl1, c1, c2⟩ := (hC1.below hB).at2 (f := fun x => .string (bs x.2)) (g := fun x => .int .i64 (x.1 : Int)) (fun _ => rfl) hlt
          have hsn := Lib.hid (wideTo_succ ys g k hlt)
          have htn := Lib.hid (stexts_snoc ys k hlt)
          have hrm := HW.out k hk hlt
          obtain ⟨hr1, hr2⟩ := hrm
          have htl : (stexts (ys.take k)).length ≤ 300 := by simp [stexts]; omega
          go_wp2_with (at_builtin; refine wpList_append_own _ rfl _ _ 24 rfl w2.heap.size 9 i0 (.string ByteArray.empty) 1 16 Try.underlying24 hi hz0 hz1 hz2 rfl (by decide) _ _ _ rfl (World.ownsRow.alloc hown _) ⟨wr.heap.size, 0, none⟩ 1 1 [.string (bs ys[k].2)] rfl rfl (cell_one_new _ _ _) (by simp [Value.oneCell']) (by simp only [maxLen]; omega) (by omega) (by simp; omega) ?_; intro v' w4 hown' hgrow _)
          go_roundw
          case rel =>
            exact ⟨k + 1, by omega, by go_num, by rw [hsn.out], by rw [htn.out]; exact Own.snoc hown',
              (hB.alloc (by omega) _).grown hgrow (by simp; omega) (fun q e => (hown.newer e))⟩
          case measure => simp [intOf]; omega
        · obtain rfl : k = ys.length := by omega
          rw [List.take_length] at hown
          have hwt : wideTo ys g ys.length = bs (spread g (ys.map (·.2))) := by unfold wideTo; rw [List.take_length]
          rw [hwt]
          obtain ⟨A, ca, rfl, hA⟩ := hown.rd (fun _ => rfl)
          have hsl : (stexts ys).length = ys.length := by simp [stexts]
          have htx : texts (stexts ys) = ys.map (·.2) := by simp [texts, stexts, bs_toList, Function.comp_def]
          have hz1 : (bs (spread g (ys.map (·.2)))).size ≤ maxLen := by rw [← size_toList, bs_toList]; have := B3.out; unfold maxLen; omega
          have hz2 : (bs (joinS none (ys.map (·.2)))).size ≤ maxLen := by
            rw [← size_toList, bs_toList]
            have h1 := joinS_len (ys.map (·.2)) none
            have h2 := B2.out
            unfold maxLen; omega
          have H4 := Lib.hid (fun W => words_is _ W hz1 zs 0 0 (by rw [bs_toList]; exact B4.out))
          have H5 := Lib.hid (fun W hh => join_any (stexts ys) A ca W hh (by rw [htx]; have := B2.out; omega))
          have H6 := Lib.hid (fun W => words_is _ W hz2 xs 0 0 (by rw [bs_toList]; exact B6.out))
          rw [htx] at H5
          have hzl : zs.length = ys.length := by simpa using congrArg List.length B5.out
          have hxl : xs.length = ys.length := by simpa using congrArg List.length B7.out
          rw [hzl] at H4
          rw [hxl] at H6
          have HZ := Lib.hid (tok_same B5.out)
          have HX := Lib.hid (tok_same B7.out)
          have HZL := Lib.hid hzl
          have HXL := Lib.hid hxl
          clear htx hz1 hz2 hwt hzl hxl hlt
          have hslH := Lib.hid hsl
          rw [hsl] at *
          clear hsl
          go_wp2_with fail
          refine (H4.out _).mono ?_
          rintro e w4 ⟨C2, k2, rfl, hC2, hb4⟩
          go_wp2_with fail
          refine (H5.out _ (hA.withB hb4)).mono ?_
          rintro e w5 ⟨rfl, hb5⟩
          go_wp2_with fail
          refine (H6.out _).mono ?_
          rintro e w6 ⟨C3, k3, rfl, hC3, hb6⟩
          have hD1 := (((hC1.withB hB).withB hb4).withB hb5).withB hb6
          have hD2 := (hC2.withB hb5).withB hb6
          have hb3 := hb.trans (hB.mono hb.size)
          have hbb := hb3.trans ((hb4.mono hb3.size).trans ((hb5.mono (Nat.le_trans hb3.size hb4.size)).trans (hb6.mono (Nat.le_trans (Nat.le_trans hb3.size hb4.size) hb5.size))))
          go_wp2
          go_loopw [18] (fun i wr => ∃ k : Nat, k ≤ ys.length ∧ i = .int .i64 k ∧ ∃ n, wr = w6.drewN n) (fun i _ => ys.length - (intOf i).toNat)
          case atStart => exact ⟨0, Nat.zero_le _, rfl, 0, rfl⟩
          case round =>
            obtain ⟨k, hk, rfl, m, rfl⟩ := hrel
            by_cases hlt : k < ys.length
            · obtain ⟨a1, o1, rfl, hl1, c1, c2⟩ := hD1.at2 (f := fun x => .string (bs x.2)) (g := fun x => .int .i64 (x.1 : Int)) (fun _ => rfl) hlt
              obtain ⟨a2, o2, rfl, hl2, c3, c4⟩ := hD2.at2 (f := fun x => .string (bs x.2)) (g := fun x => .int .i64 (x.1 : Int)) (fun _ => rfl) (show k < zs.length by rw [HZL.out]; exact hlt)
              obtain ⟨a3, o3, rfl, hl3, c5, c6⟩ := hC3.at2 (f := fun x => .string (bs x.2)) (g := fun x => .int .i64 (x.1 : Int)) (fun _ => rfl) (show k < xs.length by rw [HXL.out]; exact hlt)
              rw [HZ.out k _ hlt] at c3
              rw [HX.out k _ hlt] at c5
              have hx0 : (0 : Int) ≤ (k : Int) := by omega
              have hx1 : (k : Int) < (ys.length : Int) := by omega
              go_wp2
              go_quiet (fail)
              go_wp2
              go_roundw
              case rel => exact ⟨k + 1, by omega, by go_num, _, rfl⟩
              case measure => simp [intOf]; omega
            · go_wp2
              go_ret
              exact ⟨rfl, below_drewN hbb m⟩
end Go.Proofs.Ytkiipmkjmocmhaa
