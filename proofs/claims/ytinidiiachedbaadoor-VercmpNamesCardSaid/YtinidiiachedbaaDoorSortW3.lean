/- Walks: Go's stable sort at texts: insertion. -/
import Derived.Test.YtinidiiachedbaaDoorSortW
namespace Go.Proofs.YtinidiiachedbaaDoor
open Go.RowKit Go.Shelf

theorem last_of {α : Type} (l : List α) (h : 0 < l.length) : ∃ r x, l = r ++ [x] := by
  cases l.eq_nil_or_concat with
  | inl e => rw [e] at h; simp at h
  | inr e => obtain ⟨r, x, e⟩ := e; exact ⟨r, x, by simpa using e⟩
/-- where the new one comes to stand -/
theorem put_here {S1 P1 P2 : List ByteArray} {x : ByteArray} (h : rs ltS S1 = P1 ++ P2) (h2 : ∀ e ∈ P2, ltS x e = true) (h1 : ∀ r e, P1 = r ++ [e] → ltS x e = false) : P1 ++ x :: P2 = rs ltS (S1 ++ [x]) := by
  rw [rs_snoc, h]
  refine (mg_one ?_ h2).symm
  intro y hy
  obtain ⟨r, e, hr⟩ := last_of P1 (by cases P1 with | nil => simp at hy | cons a b => simp)
  have hx := h1 r e hr
  rw [hr] at hy
  rcases List.mem_append.1 hy with hy | hy
  · have hs := rs_srt ordS S1
    rw [h, hr] at hs
    have := (List.pairwise_append.1 (List.pairwise_append.1 hs).1).2.2 y hy e (by simp)
    exact ordS.ntrans x e y hx this
  · simp at hy; rw [hy]; exact hx
theorem insort_none (g cap N a : Nat) (w : World) (hN2 : a ≤ 1000000) :
    Calls Tryd.prog 107 #[.slice (some ⟨g, 0, none⟩) N cap, .int .i64 (a : Int), .int .i64 (a : Int), cmpF] w fun e w' => e = .returned (.tuple #[]) ∧ w = w' := by
  go_enter Tryd.func107, Tryd.ntmps107
  go_wp2
  refine wp_loop_rounds 1 ?_
  rw [rounds_succ]
  go_wp2
  go_end0
  exact ⟨rfl, rfl⟩
theorem keepR {W W' w : World} {g p q : Nat} {x y : ByteArray} {D : List ByteArray} (h : W.cell? ⟨g, p, none⟩ = some (.string x) ∧ W.cell? ⟨g, q, none⟩ = some (.string y) ∧ RowS W g D ∧ Turn w W g) (hb : Below W.heap.size W W') :
    W'.cell? ⟨g, p, none⟩ = some (.string x) ∧ W'.cell? ⟨g, q, none⟩ = some (.string y) ∧ RowS W' g D ∧ Turn w W' g :=
  ⟨(hb.cell (p := ⟨g, p, none⟩) h.2.2.1.1).trans h.1, (hb.cell (p := ⟨g, q, none⟩) h.2.2.1.1).trans h.2.1, h.2.2.1.calls hb, h.2.2.2.calls hb⟩
set_option maxRecDepth 100000 in
set_option maxHeartbeats 4000000 in
theorem insort_any (g cap N : Nat) (A S C : List ByteArray) (a b : Nat) (w : World) (ha : a = A.length) (hb : b = A.length + S.length) (hN : N = (A ++ S ++ C).length) (hN2 : N ≤ 1000000) (hS : 0 < S.length) (hsh : Sh S)
    (hrow : RowS w g (A ++ S ++ C)) :
    Calls Tryd.prog 107 #[.slice (some ⟨g, 0, none⟩) N cap, .int .i64 (a : Int), .int .i64 (b : Int), cmpF] w fun e w' => e = .returned (.tuple #[]) ∧ RowS w' g (A ++ rs ltS S ++ C) ∧ Turn w w' g := by
  have hl : A.length + S.length + C.length = N := by rw [hN]; simp; omega
  obtain ⟨s0, S', rfl⟩ : ∃ x r, S = x :: r := by cases S with | nil => simp at hS | cons x r => exact ⟨x, r, rfl⟩
  have HA := Lib.hid ha
  have HB := Lib.hid hb
  have HL := Lib.hid hl
  have HSH := Lib.hid hsh
  have hab : (a : Int) + 1 ≤ (b : Int) := by simp at hb; omega
  have hbN : (b : Int) ≤ (N : Int) := by omega
  have hNN : (N : Int) ≤ 1000000 := by omega
  clear ha hb hl hN hS hsh
  go_enter Tryd.func107, Tryd.ntmps107
  go_wp2
  go_loopw [8, 9] (fun i _ wr => ∃ (k : Nat) (S1 S2 : List ByteArray), a + 1 ≤ k ∧ k ≤ b ∧ i = .int .i64 (k : Int) ∧ RowKit.Hid (s0 :: S' = S1 ++ S2) ∧ RowKit.Hid (A.length + S1.length = k) ∧ RowS wr g (A ++ rs ltS S1 ++ S2 ++ C) ∧ Turn w wr g) (fun i _ _ => b - (intOf i).toNat)
  case atStart => exact ⟨a + 1, [s0], S', by omega, by omega, by go_num, Lib.hid rfl, Lib.hid (by have := HA.out; simp; omega), by simpa [rs, mg_nil] using hrow, Turn.refl⟩
  case round =>
    obtain ⟨k, S1, S2, hk1, hk2, rfl, hS, hk, hR, hT⟩ := hrel
    by_cases hlt : k < b
    · obtain ⟨x, S2, rfl⟩ : ∃ x r, S2 = x :: r := by
        have h1 := congrArg List.length hS.out
        have := hk.out; have := HB.out
        cases S2 with
        | nil => simp at *; omega
        | cons x r => exact ⟨x, r, rfl⟩
      have hxs : x.size ≤ 1000000 := HSH.out x (by rw [hS.out]; simp)
      have hps : RowKit.Hid (∀ y ∈ rs ltS S1, y.size ≤ 1000000) := Lib.hid (fun y hy => HSH.out y (by rw [hS.out]; exact List.mem_append_left _ ((rs_perm S1).mem_iff.1 hy)))
      have hlr := rs_len (lt := ltS) S1
      have HLR := Lib.hid hlr
      clear hlr
      have hR0 := Lib.hid hR
      clear hR
      have hT0 := Lib.hid hT
      clear hT
      rename World => w0
      go_wp2
      go_loopw [9] (fun j wr => ∃ (P1 P2 : List ByteArray), j = .int .i64 ((a + P1.length : Nat) : Int) ∧ a + P1.length ≤ k ∧ RowKit.Hid (rs ltS S1 = P1 ++ P2) ∧ RowKit.Hid (∀ e ∈ P2, ltS x e = true) ∧ RowS wr g (A ++ P1 ++ x :: P2 ++ S2 ++ C) ∧ Turn w wr g) (fun j _ => (intOf j).toNat)
      case atStart => exact ⟨rs ltS S1, [], by rw [HLR.out]; congr 2; have := hk.out; have := HA.out; omega, by rw [HLR.out]; have := hk.out; have := HA.out; omega, Lib.hid (by simp), Lib.hid (by simp), by simpa using hR0.out, hT0.out⟩
      case round =>
        obtain ⟨P1, P2, rfl, hjk, hP, hgt, hR, hT⟩ := hrel
        rcases List.eq_nil_or_concat P1 with rfl | ⟨r, e, he⟩
        · have HF := Lib.hid (put_here hP.out hgt.out (fun r e h => by simp at h))
          simp only [List.length_nil, Nat.add_zero]
          go_wp2
          go_quiet (fail)
          go_wp2
          go_roundw
          case rel => exact ⟨k + 1, S1 ++ [x], S2, by omega, by omega, by go_num, Lib.hid (by rw [hS.out]; simp), Lib.hid (by have := hk.out; simp; omega), by rw [← HF.out]; exact (by simpa using hR : RowS wr g _).drewN _, hT.drewN _⟩
          case measure => simp [intOf]; omega
        · have he' : P1 = r ++ [e] := by simpa using he
          subst he'
          obtain ⟨q, hq⟩ : ∃ q, a + r.length = q := ⟨_, rfl⟩
          have hq1 : a + (r ++ [e]).length = q + 1 := by simp; omega
          rw [hq1] at hjk
          rw [hq1]
          have Q1 := Lib.hid hq1
          have Q := Lib.hid hq
          have eD : A ++ (r ++ [e]) ++ x :: P2 ++ S2 ++ C = (A ++ r) ++ e :: ([] ++ x :: (P2 ++ S2 ++ C)) := by simp
          rw [eD] at hR
          have E1 : q = (A ++ r).length := by have := HA.out; simp; omega
          have E2 : q + 1 = (A ++ r).length + 1 + ([] : List ByteArray).length := by simp; have := HA.out; omega
          obtain ⟨c1, f1⟩ := hR.at_ (one_at E1)
          obtain ⟨c2, f2⟩ := hR.at_ (two_at E2)
          have hes : e.size ≤ 1000000 := hps.out e (by rw [hP.out]; simp)
          have K := Lib.hid (fun W => sortCmp_any x e W hxs hes)
          have hqa : (a : Int) < (q : Int) + 1 := by omega
          have hqN : (q : Int) + 1 < (N : Int) := by omega
          have hq0 : (0 : Int) ≤ (q : Int) := by omega
          have hqN2 : (q : Int) < (N : Int) := by omega
          have u1 : IntKind.i64.wrap ((q : Int) + 1 - 1) = (q : Int) := by rw [IntWalk.i64_in _ (by omega)]; omega
          have u2 : (((q : Int) + 1).toNat) = q + 1 := by omega
          have u3 : IntKind.i64.wrap (q : Int) = (q : Int) := IntWalk.i64_in _ (by omega)
          have u4 : (0 : Int) ≤ (q : Int) + 1 := by omega
          have E1' := Lib.hid E1
          have E2' := Lib.hid E2
          clear hq hq1 E1 E2 eD he
          cases hlt2 : ltS x e with
          | false =>
            have HF := Lib.hid (put_here hP.out hgt.out (fun r' e' h => by
              obtain ⟨_, h2⟩ := List.append_inj' h rfl
              simp at h2; rw [← h2]; exact hlt2))
            have hc : ¬ comp x.toList e.toList < 0 := by unfold ltS at hlt2; simpa using hlt2
            generalize comp x.toList e.toList = c at *
            have hc2 : decide (c < 0) = false := decide_eq_false hc
            clear hlt2
            go_wp2
            go_region_held3 (fun W => W.cell? ⟨g, q + 1, none⟩ = some (.string x) ∧ W.cell? ⟨g, q, none⟩ = some (.string e) ∧ RowS W g (A ++ r ++ e :: ([] ++ x :: (P2 ++ S2 ++ C))) ∧ Turn w W g) (first | exact keepR (by assumption) hbb | exact ⟨c2, c1, hR.drew, hT.drew⟩ | go_keep)
              (first | (go_at_call 39; refine (K.out _).mono ?_; rintro e' w' ⟨rfl, hbb⟩))
            rename_i hh
            go_wp2
            go_roundw
            case rel => exact ⟨k + 1, S1 ++ [x], S2, by omega, by omega, by go_num, Lib.hid (by rw [hS.out]; simp), Lib.hid (by have := hk.out; simp; omega), by rw [← HF.out]; have h := hh.2.2.1; simpa using h, hh.2.2.2⟩
            case measure => simp [intOf]; omega
          | true =>
            have hc : comp x.toList e.toList < 0 := by unfold ltS at hlt2; simpa using hlt2
            have HL2 := Lib.hid hlt2
            generalize comp x.toList e.toList = c at *
            have hc2 : decide (c < 0) = true := decide_eq_true hc
            clear hlt2
            go_wp2
            go_region_held3 (fun W => W.cell? ⟨g, q + 1, none⟩ = some (.string x) ∧ W.cell? ⟨g, q, none⟩ = some (.string e) ∧ RowS W g (A ++ r ++ e :: ([] ++ x :: (P2 ++ S2 ++ C))) ∧ Turn w W g) (first | exact keepR (by assumption) hbb | exact ⟨c2, c1, hR.drew, hT.drew⟩ | go_keep)
              (first | (go_at_call 39; refine (K.out _).mono ?_; rintro e' w' ⟨rfl, hbb⟩))
            rename_i hh
            clear c1 c2 f1 f2 hR hT
            obtain ⟨c2, c1, hR, hT⟩ := id hh
            have f1 := (hR.at_ (one_at E1'.out)).2
            have f2 := (hR.at_ (two_at E2'.out)).2
            have HR := ((hR.set (i := q + 1) (by have := E2'.out; simp at this ⊢; omega) e).set (i := q) (by have := E1'.out; simp at this ⊢; omega) x).drew
            rw [two_sets' E1'.out E2'.out] at HR
            have HT := ((hT.set (q + 1) (.string e)).set q (.string x)).drew
            clear hh hR hT
            go_wp2
            go_region
            generalize ((w'.setCell { block := g, off := q + 1 } (Value.string e)).setCell { block := g, off := q } (Value.string x)).drew = V at *
            clear c1 c2 f1 f2
            go_wp2
            go_roundw
            case rel => exact ⟨r, e :: P2, by have := Q.out; rw [this], by have := Q.out; omega, Lib.hid (by rw [hP.out]; simp), Lib.hid (by
              intro z hz
              rcases List.mem_cons.1 hz with rfl | hz
              · exact HL2.out
              · exact hgt.out z hz), by simpa using HR, HT⟩
            case measure => simp [intOf]
    · have hS2 : S2 = [] := by
        have h1 := congrArg List.length hS.out
        rw [List.length_append] at h1
        have := hk.out; have := HB.out
        exact List.eq_nil_of_length_eq_zero (by omega)
      have HR := Lib.hid (show RowS wr g (A ++ rs ltS (s0 :: S') ++ C) by rw [hS.out, hS2]; rw [hS2] at hR; simpa using hR)
      clear hS2 hR
      go_wp2
      go_end0
      exact ⟨rfl, HR.out, hT⟩
end Go.Proofs.YtinidiiachedbaaDoor
