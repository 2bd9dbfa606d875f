/- VercmpSorts, walked (under way). -/
import Derived.Test.YtinidiiachedbaaDoorVmSorted
import Derived.Test.YtinidiiachedbaaDoorRefSort
import Derived.Test.YtinidiiachedbaaDoorTextsR02
namespace Go.Proofs.YtinidiiachedbaaDoor
open Go.RowKit Go.Shelf
set_option linter.unusedVariables false

set_option maxRecDepth 100000 in
set_option maxHeartbeats 16000000 in
theorem sorts_long (w : World) (l : List ByteArray) (A : Option Addr) (cap : Nat) (h : Rd (fun s => [Value.string s]) 1 w.heap.size A cap l w) (hz : ∀ s ∈ l, s.size ≤ reachBytes) (hl : longL l = true) : Calls Tryd.prog 3 #[.slice A l.length cap] w fun e w' => e = .returned (.bool true) ∧ Below w.heap.size w w' := by
  have LG := Lib.hid (long02_any l A cap w h hz)
  rw [hl] at LG
  have AW := Lib.hid (fun W => awake02 W)
  clear h hz hl
  generalize l.length = n at *
  go_enter Tryd.func3, Tryd.ntmps3
  go_wp2_with fail
  go_at_call 10
  refine LG.out.mono ?_
  rintro e w1 ⟨rfl, rfl⟩
  go_wp2_with fail
  go_at_call 11
  refine (AW.out _).mono ?_
  rintro e w2 ⟨rfl, h⟩
  go_wp2
  go_ret
  exact ⟨rfl, h⟩
theorem turn_keep {w W : World} {g : Nat} {K : Option Addr} {D : List ByteArray} (h : TR w K D) (t : Turn w W g) (hk : ∀ b o s, K = some ⟨b, o, s⟩ → b ≠ g) : TR W K D := fun k hlt => by
  obtain ⟨b, o, e, hl, hc⟩ := h k hlt
  refine ⟨b, o, e, Nat.lt_of_lt_of_le hl t.size, ?_⟩
  have h2 := t.block b hl (by simpa using hk b o none e)
  rw [← hc]
  unfold World.cell?
  simp only [h2]
theorem rows_tr {W : World} {g : Nat} {E : List ByteArray} (h : RowS W g E) : TR W (some ⟨g, 0, none⟩) E := fun k hk => ⟨g, 0, rfl, h.1, by simpa using (h.2 k hk).1⟩
theorem ownS_of_map {w : World} {base : Nat} {e : TypeId} {v : Value} {D : List ByteArray} (h : w.ownsRow base e 1 v (0 + D.length) ([] ++ D.map Value.string)) : Own encS 1 base e v D w := by
  unfold Own
  rw [flat_encS]
  simpa using h
theorem texts_same (A B : Option Addr) (c d n : Nat) (D : List ByteArray) (hn : n = D.length) (w : World) (h : n ≤ 1000000) (h1 : TR w A D) (h2 : TR w B D) : Calls Tryd.prog 13 #[.slice A n c, .slice B n d] w fun e w' => e = .returned (.bool true) ∧ Below w.heap.size w w' := by
  subst hn
  have h3 := textsR02_any A B c d D D w (by omega) (by omega) h1 h2
  rw [show decide (D = D) = true from decide_eq_true rfl] at h3
  exact h3
theorem ne_block {W : World} {K : Option Addr} {D : List ByteArray} {g : Nat} (h : TR W K D) (h0 : 0 < D.length) (hg : W.heap.size ≤ g) : ∀ b o s, K = some ⟨b, o, s⟩ → b ≠ g := fun b o s e => by
  obtain ⟨b', o', e', hl, _⟩ := h 0 h0
  rw [e] at e'
  cases e'
  omega
set_option maxRecDepth 100000 in
set_option maxHeartbeats 16000000 in
theorem sorts_some (w : World) (D : List ByteArray) (b o cap : Nat) (h : Rd (fun s => [Value.string s]) 1 w.heap.size (some ⟨b, o, none⟩) cap D w) (hb : b < w.heap.size) (hz : ∀ s ∈ D, s.size ≤ reachBytes) (hl : longL D = false) (h0 : 0 < D.length) :
    Calls Tryd.prog 3 #[.slice (some ⟨b, o, none⟩) D.length cap] w fun e w' => e = .returned (.bool true) ∧ Below w.heap.size w w' := by
  have LG := Lib.hid (long02_any D _ cap w h hz)
  rw [hl] at LG
  obtain ⟨hn1, hs3⟩ := longL_small hl
  have hsh := sh_of hs3
  have AW := Lib.hid (fun W => awake02 W)
  have hTR := Lib.hid (TR.of_rd h)
  have cells : ∀ (W : World), Below w.heap.size w W → ∀ (k : Nat) (hk : k < D.length), W.cell? ⟨b, o + k, none⟩ = some (.string D[k]) := by
    intro W hB k hk
    obtain ⟨b', o', e, hb', hc⟩ := (h.below hB).at1 (f := fun s => Value.string s) (fun _ => rfl) hk
    simp only [Option.some.injEq, Addr.mk.injEq, true_and] at e
    obtain ⟨rfl, rfl, _⟩ := e
    exact hc
  have SO := Lib.hid (fun W (hB : Below w.heap.size w W) => sort_off b o D.length cap D W rfl (by omega) hsh (cells W hB))
  have RS := Lib.hid (fun W (hB : Below w.heap.size w W) => refsort_any (some ⟨b, o, none⟩) D.length cap D W rfl (by omega) hsh (hTR.out.below hB))
  have TY := Lib.hid (fun K c W (hB : Below w.heap.size w W) (hK : TR W K D) => texts_same (some ⟨b, o, none⟩) K cap c D.length D rfl W (by omega) (hTR.out.below hB) hK)
  obtain ⟨E, hE⟩ : ∃ E, E = rs ltS D := ⟨_, rfl⟩
  have hEl : E.length = D.length := by rw [hE]; exact rs_len D
  rw [← hE] at SO RS
  have TX := Lib.hid (fun g c B c' W (h1 : RowS W g E) (h2 : TR W B E) => texts_same (some ⟨g, 0, none⟩) B c c' D.length E hEl.symm W (by omega) (rows_tr h1) h2)
  obtain ⟨n, hn⟩ : ∃ n, n = D.length := ⟨_, rfl⟩
  have h00 := Lib.hid h0
  rw [← hn] at LG SO RS TX TY hn1 h0 hEl ⊢
  have HN := Lib.hid hn
  have HEL := Lib.hid hEl
  clear hz hl hs3 hsh cells hE hEl hn h
  go_enter Tryd.func3, Tryd.ntmps3
  go_wp2_with fail
  go_at_call 10
  refine LG.out.mono ?_
  rintro e w1 ⟨rfl, rfl⟩
  have hTW := hTR.out.calls ((Below.refl w.heap.size w).alloc (Nat.le_refl _) (.cells #[] 9))
  go_wp2_with (at_builtin; refine wpList_append_tr _ rfl _ _ 22 rfl w.heap.size 9 _ (by rfl) (by rfl) (by rfl) (by rfl) (by rfl) _ 0 [] rfl (World.ownsRow_made w #[] 0 (Nat.le_refl _) (Nat.zero_le _) rfl) (some ⟨b, o, none⟩) cap D n HN.out rfl hTW (by have := HN.out; unfold maxLen; omega) (by have := HN.out; omega) (by simp) ?_; intro v1 w1 ho1 hg1 hw1)
  have hB := ((Below.refl _ w).alloc (Nat.le_refl _) _).grown hg1 (by simp) (fun j hj => by cases hj; exact Nat.le_refl _)
  obtain ⟨K, ck, hv, hTk⟩ := TR.of_own (ownS_of_map ho1)
  rw [← HN.out] at hv
  subst hv
  clear ho1 hg1 hw1 hTW
  go_wp2_with fail
  go_loopw [4] (fun i wr => ∃ k : Nat, k ≤ 2 ∧ i = .int .i64 (k : Int) ∧ Below w.heap.size w wr ∧ TR wr K D) (fun i _ => 2 - (intOf i).toNat)
  case atStart => exact ⟨0, by omega, rfl, hB, hTk⟩
  case round =>
    clear hB hTk
    obtain ⟨k, hk, rfl, hB, hTk⟩ := hrel
    rename World => wr
    have T0 := Lib.hid hTk
    clear hTk
    by_cases hlt : k < 2
    · have hk2 : (k : Int) < 2 := by omega
      go_wp2_with fail
      go_at_call 12
      refine (SO.out _ hB).mono ?_
      rintro e w2 ⟨g, c, rfl, hg, hR, h⟩
      have B2 := hB.trans (h.mono hB.size)
      have R2 := Lib.hid hR
      have NE := Lib.hid (ne_block T0.out (by have := h00.out; exact this) hg)
      have T2 := Lib.hid (T0.out.calls h)
      have hgw : w.heap.size ≤ g := Nat.le_trans hB.size hg
      clear h hR hB T0 hg
      go_wp2_with fail
      go_at_call 14
      refine (RS.out _ B2).mono ?_
      rintro e w3 ⟨B, c', rfl, hT3, h⟩
      have B3 := B2.trans (h.mono B2.size)
      have R3 := Lib.hid (R2.out.calls h)
      have T3 := Lib.hid (T2.out.calls h)
      have TE := Lib.hid hT3
      clear h hT3 R2 T2 B2
      go_wp2_with fail
      go_at_call 13
      refine (TX.out _ _ _ _ _ R3.out TE.out).mono ?_
      rintro e w4 ⟨rfl, h⟩
      have B4 := B3.trans (h.mono B3.size)
      have R4 := Lib.hid (R3.out.calls h)
      have T4 := Lib.hid (T3.out.calls h)
      clear h TE R3 T3 B3
      go_wp2_with fail
      go_at_call 13
      refine (TY.out _ _ _ B4 T4.out).mono ?_
      rintro e w5 ⟨rfl, h⟩
      have B5 := Lib.hid (B4.trans (h.mono B4.size))
      have R5 := Lib.hid (R4.out.calls h)
      have T5 := Lib.hid (T4.out.calls h)
      clear h R4 T4 B4
      go_wp2_with fail
      go_loopw [6] (fun i W => ∃ q : Nat, q ≤ n ∧ i = .int .i64 (q : Int) ∧ (∃ F : List ByteArray, F.length = n ∧ RowS W g F) ∧ Turn w5 W g) (fun i _ => n - (intOf i).toNat)
      case atStart => exact ⟨0, by omega, rfl, ⟨E, HEL.out, R5.out⟩, Turn.refl⟩
      case round =>
        obtain ⟨q, hq, rfl, ⟨F, hF, hRF⟩, hTu⟩ := hrel
        rename World => w6
        by_cases hq2 : q < n
        · have hqi : (q : Int) < (n : Int) := by omega
          have hq0 : (0 : Int) ≤ (q : Int) := by omega
          have hqF : q < F.length := by omega
          obtain ⟨p1, f1⟩ := hRF.2 q hqF
          generalize F[q] = x at *
          have HR := Lib.hid hRF
          have HT := Lib.hid hTu
          have HF := Lib.hid hF
          have HQ := Lib.hid hqF
          clear hRF hTu hF hqF
          go_wp2_with fail
          go_roundw
          case rel => exact ⟨q + 1, by omega, by go_num, ⟨F.set q _, by rw [List.length_set]; exact HF.out, HR.out.set HQ.out _⟩, HT.out.set q _⟩
          case measure => simp [intOf]; omega
        · have hqi : ¬ (q : Int) < (n : Int) := by omega
          have HT := Lib.hid hTu
          clear hRF hTu hF
          go_wp2_with fail
          go_roundw
          case rel => exact ⟨k + 1, by omega, by go_num, B5.out.grown HT.out B5.out.size (fun j hj => by cases hj; exact hgw), turn_keep T5.out HT.out NE.out⟩
          case measure => simp [intOf]; omega
    · have hk2 : ¬ (k : Int) < 2 := by omega
      go_wp2_with fail
      go_at_call 11
      refine (AW.out _).mono ?_
      rintro e w2 ⟨rfl, h⟩
      have B2 := hB.trans (h.mono hB.size)
      go_wp2
      go_ret
      exact ⟨rfl, B2⟩
set_option maxRecDepth 100000 in
set_option maxHeartbeats 16000000 in
theorem sorts_none (w : World) (A : Option Addr) (cap : Nat) (h : Rd (fun s => [Value.string s]) 1 w.heap.size A cap [] w) : Calls Tryd.prog 3 #[.slice A 0 cap] w fun e w' => e = .returned (.bool true) ∧ Below w.heap.size w w' := by
  have LG := Lib.hid (long02_any [] A cap w h (by simp))
  rw [show longL [] = false from rfl] at LG
  have AW := Lib.hid (fun W => awake02 W)
  have SO := Lib.hid (fun B c W => sort_empty B c W)
  have RS := Lib.hid (fun B c W => refsort_any B 0 c [] W rfl (by decide) (fun x hx => by cases hx) (TR.nil _ _))
  have TX := Lib.hid (fun a c b d W => texts_same a b c d 0 [] rfl W (by decide) (TR.nil _ _) (TR.nil _ _))
  clear h
  go_enter Tryd.func3, Tryd.ntmps3
  go_wp2_with fail
  go_at_call 10
  refine LG.out.mono ?_
  rintro e w1 ⟨rfl, rfl⟩
  have hTW := TR.nil (w.alloc (.cells #[] 9)) A
  go_wp2_with (at_builtin; refine wpList_append_tr _ rfl _ _ 22 rfl w.heap.size 9 _ (by rfl) (by rfl) (by rfl) (by rfl) (by rfl) _ 0 [] rfl (World.ownsRow_made w #[] 0 (Nat.le_refl _) (Nat.zero_le _) rfl) A cap [] 0 rfl rfl hTW (by decide) (by decide) (by simp) ?_; intro v1 w1 ho1 hg1 hw1)
  have hB := ((Below.refl _ w).alloc (Nat.le_refl _) _).grown hg1 (by simp) (fun j hj => by cases hj; exact Nat.le_refl _)
  obtain ⟨K, ck, hv, hTk⟩ := TR.of_own (ownS_of_map ho1)
  rw [List.length_nil] at hv
  subst hv
  clear ho1 hg1 hw1 hTW hTk
  go_wp2_with fail
  go_loopw [4] (fun i wr => ∃ k : Nat, k ≤ 2 ∧ i = .int .i64 (k : Int) ∧ Below w.heap.size w wr) (fun i _ => 2 - (intOf i).toNat)
  case atStart => exact ⟨0, by omega, rfl, hB⟩
  case round =>
    clear hB
    obtain ⟨k, hk, rfl, hB⟩ := hrel
    rename World => wr
    by_cases hlt : k < 2
    · have hk2 : (k : Int) < 2 := by omega
      go_wp2_with fail
      go_at_call 12
      refine (SO.out _ _ _).mono ?_
      rintro e w2 ⟨B, c, rfl, h⟩
      have B2 := hB.trans (h.mono hB.size)
      clear h hB
      go_wp2_with fail
      go_at_call 14
      refine (RS.out _ _ _).mono ?_
      rintro e w3 ⟨B', c', rfl, _, h⟩
      have B3 := B2.trans (h.mono B2.size)
      clear h B2
      go_wp2_with fail
      go_at_call 13
      refine (TX.out _ _ _ _ _).mono ?_
      rintro e w4 ⟨rfl, h⟩
      have B4 := B3.trans (h.mono B3.size)
      clear h B3
      go_wp2_with fail
      go_at_call 13
      refine (TX.out _ _ _ _ _).mono ?_
      rintro e w5 ⟨rfl, h⟩
      have B5 := B4.trans (h.mono B4.size)
      clear h B4
      go_wp2_with fail
      refine wp_loop_rounds 1 ?_
      rw [rounds_succ]
      go_wp2_with fail
      go_roundw
      case rel => exact ⟨k + 1, by omega, by go_num, B5⟩
      case measure => simp [intOf]; omega
    · have hk2 : ¬ (k : Int) < 2 := by omega
      go_wp2_with fail
      go_at_call 11
      refine (AW.out _).mono ?_
      rintro e w2 ⟨rfl, h⟩
      have B2 := hB.trans (h.mono hB.size)
      go_wp2
      go_ret
      exact ⟨rfl, B2⟩
theorem vercmpSorts_row (w : World) (l : List ByteArray) (A : Option Addr) (cap : Nat) (h : Rd (fun s => [Value.string s]) 1 w.heap.size A cap l w) (hz : ∀ s ∈ l, s.size ≤ reachBytes) :
    Calls Tryd.prog 3 #[.slice A l.length cap] w fun e w' => e = .returned (.bool true) ∧ Below w.heap.size w w' := by
  cases hl : longL l with
  | true => exact sorts_long w l A cap h hz hl
  | false =>
    by_cases h0 : 0 < l.length
    · obtain ⟨b, o, rfl, hb, _⟩ := h.2.2 0 h0
      exact sorts_some w l b o cap h hb hz hl h0
    · obtain rfl : l = [] := List.eq_nil_of_length_eq_zero (by omega)
      exact sorts_none w A cap h
end Go.Proofs.YtinidiiachedbaaDoor
