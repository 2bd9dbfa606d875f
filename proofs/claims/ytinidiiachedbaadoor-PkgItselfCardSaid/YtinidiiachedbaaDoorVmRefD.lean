/- Walks: how the document compares two versions. -/
import Derived.Test.YtinidiiachedbaaDoorVmRefC
import Derived.Deep.RegionWith
namespace Go.Proofs.YtinidiiachedbaaDoor
open Go.RowKit Go.Shelf

set_option maxRecDepth 100000 in
set_option maxHeartbeats 2000000 in
theorem rcomp_any (a b : ByteArray) (w : World) (ha : a.size ≤ 1000000) (hb : b.size ≤ 1000000) : Calls Tryd.prog 40 #[.string a, .string b] w fun e w' => e = .returned (.int .i64 (comp a.toList b.toList)) ∧ Below w.heap.size w w' := by
  have na := pts_len a.toList
  have nb := pts_len b.toList
  rw [size_toList] at na nb
  have hround := Lib.hid (fun k => @comp_round a.toList b.toList k)
  have hlast := Lib.hid (fun k => @comp_last a.toList b.toList k)
  have hcomp := Lib.hid (show comp a.toList b.toList = cmpV (pts a.toList ++ [fin]) (pts b.toList ++ [fin]) from rfl)
  have PA := Lib.hid (fun W => rparts_any a W (by omega))
  have PB := Lib.hid (fun W => rparts_any b W (by omega))
  generalize pts a.toList = la at *
  generalize pts b.toList = lb at *
  generalize comp a.toList b.toList = res at *
  go_enter Tryd.func40, Tryd.ntmps40
  go_wp2_with fail
  go_at_call 71
  refine (PA.out w).mono ?_
  rintro e w1 ⟨v, rfl, hv, hb1⟩
  obtain ⟨A, ca, rfl, hrdA⟩ := hv.rd (fun _ => rfl)
  clear hv
  go_wp2_with fail
  go_at_call 71
  refine (PB.out w1).mono ?_
  rintro e w2 ⟨v, rfl, hv, hb2⟩
  obtain ⟨Bm, cb, rfl, hrdB⟩ := hv.rd (fun _ => rfl)
  clear hv PA PB
  have hrA := hrdA.withB hb2
  have hBw : Below w.heap.size w w2 := hb1.trans (hb2.mono hb1.size)
  clear hrdA hb1 hb2
  have RA := Lib.hid (fun (k : Nat) W (h : Below w2.heap.size w2 W) => at_any la A ca k W ((hrA.below h).more h.size))
  have RB := Lib.hid (fun (k : Nat) W (h : Below w2.heap.size w2 W) => at_any lb Bm cb k W ((hrdB.below h).more h.size))
  go_wp2_with fail
  go_loopw [7] (fun i wr => ∃ k : Nat, k ≤ la.length ∧ k ≤ lb.length ∧ i = .int .i64 (k : Int) ∧ RowKit.Hid (res = cmpV ((la ++ [fin]).drop k) ((lb ++ [fin]).drop k)) ∧ Below w2.heap.size w2 wr) (fun i _ => la.length + 1 - (intOf i).toNat)
  case atStart => exact ⟨0, by omega, by omega, rfl, Lib.hid (by rw [hcomp.out]; rfl), Below.refl _ _⟩
  case round =>
    obtain ⟨k, hk1, hk2, rfl, hc, hB⟩ := hrel
    by_cases hlt : k < la.length ∨ k < lb.length
    · have H := Lib.hid (hround.out k hk1 hk2 hc.out)
      have hneg := cmpP_neg (atP la k) (atP lb k)
      rcases cmpP_cases (atP la k) (atP lb k) with hz | hz | hz
      · have hl1 : lessP (atP la k) (atP lb k) = true := by unfold lessP; rw [hz]; rfl
        have H2 := Lib.hid (show (-1 : Int) = res by rw [H.out.1 (by rw [hz]; decide), hz])
        clear hz hneg
        rcases (show k < la.length ∨ (¬ k < la.length ∧ k < lb.length) by omega) with hlt | ⟨hltn, hlt⟩
        all_goals
          go_wp2_with fail
          go_at_call 73
          refine (RA.out k wr hB).mono ?_
          rintro e w3 ⟨rfl, h⟩
          have B3 := hB.trans (h.mono hB.size)
          clear h
          go_wp2_with fail
          go_at_call 73
          refine (RB.out k w3 B3).mono ?_
          rintro e w4 ⟨rfl, h⟩
          have B4 := B3.trans (h.mono B3.size)
          clear h
          go_wp2_with fail
          go_at_call 72
          refine (below_any (atP la k) (atP lb k) w4).mono ?_
          rintro e w5 ⟨rfl, h⟩
          have B5 := B4.trans (h.mono B4.size)
          clear h
          go_wp2
          go_ret
          exact ⟨ret_int H2.out, hBw.trans (B5.mono hBw.size)⟩
      · have hl1 : lessP (atP la k) (atP lb k) = false := by unfold lessP; rw [hz]; rfl
        have hl2 : lessP (atP lb k) (atP la k) = false := by unfold lessP; rw [hneg, hz]; rfl
        obtain ⟨h1, h2, h3⟩ := H.out.2 hz hlt
        have H2 := Lib.hid h3
        clear hz hneg h3 hlt
        go_wp2_with fail
        go_at_call 73
        refine (RA.out k wr hB).mono ?_
        rintro e w3 ⟨rfl, h⟩
        have B3 := hB.trans (h.mono hB.size)
        clear h
        go_wp2_with fail
        go_at_call 73
        refine (RB.out k w3 B3).mono ?_
        rintro e w4 ⟨rfl, h⟩
        have B4 := B3.trans (h.mono B3.size)
        clear h
        go_wp2_with fail
        go_at_call 72
        refine (below_any (atP la k) (atP lb k) w4).mono ?_
        rintro e w5 ⟨rfl, h⟩
        have B5 := B4.trans (h.mono B4.size)
        clear h
        go_wp2_with fail
        go_at_call 73
        refine (RB.out k w5 B5).mono ?_
        rintro e w6 ⟨rfl, h⟩
        have B6 := B5.trans (h.mono B5.size)
        clear h
        go_wp2_with fail
        go_at_call 73
        refine (RA.out k w6 B6).mono ?_
        rintro e w7 ⟨rfl, h⟩
        have B7 := B6.trans (h.mono B6.size)
        clear h
        go_wp2_with fail
        go_at_call 72
        refine (below_any (atP lb k) (atP la k) w7).mono ?_
        rintro e w8 ⟨rfl, h⟩
        have B8 := B7.trans (h.mono B7.size)
        clear h
        go_wp2
        go_roundw
        case rel => exact ⟨k + 1, by omega, by omega, by go_num, H2, B8⟩
        case measure => simp [intOf]; omega
      · have hl1 : lessP (atP la k) (atP lb k) = false := by unfold lessP; rw [hz]; rfl
        have hl2 : lessP (atP lb k) (atP la k) = true := by unfold lessP; rw [hneg, hz]; rfl
        have H2 := Lib.hid (show (1 : Int) = res by rw [H.out.1 (by rw [hz]; decide), hz])
        clear hz hneg
        rcases (show k < la.length ∨ (¬ k < la.length ∧ k < lb.length) by omega) with hlt | ⟨hltn, hlt⟩
        all_goals
          go_wp2_with fail
          go_at_call 73
          refine (RA.out k wr hB).mono ?_
          rintro e w3 ⟨rfl, h⟩
          have B3 := hB.trans (h.mono hB.size)
          clear h
          go_wp2_with fail
          go_at_call 73
          refine (RB.out k w3 B3).mono ?_
          rintro e w4 ⟨rfl, h⟩
          have B4 := B3.trans (h.mono B3.size)
          clear h
          go_wp2_with fail
          go_at_call 72
          refine (below_any (atP la k) (atP lb k) w4).mono ?_
          rintro e w5 ⟨rfl, h⟩
          have B5 := B4.trans (h.mono B4.size)
          clear h
          go_wp2_with fail
          go_at_call 73
          refine (RB.out k w5 B5).mono ?_
          rintro e w6 ⟨rfl, h⟩
          have B6 := B5.trans (h.mono B5.size)
          clear h
          go_wp2_with fail
          go_at_call 73
          refine (RA.out k w6 B6).mono ?_
          rintro e w7 ⟨rfl, h⟩
          have B7 := B6.trans (h.mono B6.size)
          clear h
          go_wp2_with fail
          go_at_call 72
          refine (below_any (atP lb k) (atP la k) w7).mono ?_
          rintro e w8 ⟨rfl, h⟩
          have B8 := B7.trans (h.mono B7.size)
          clear h
          go_wp2
          go_ret
          exact ⟨ret_int H2.out, hBw.trans (B8.mono hBw.size)⟩
    · have h1 : k = la.length := by omega
      have h2 : k = lb.length := by omega
      have H2 := Lib.hid (hlast.out k h1 h2 hc.out)
      clear hlt
      go_wp2
      go_ret
      exact ⟨ret_int H2.out.symm, hBw.trans (hB.mono hBw.size)⟩
end Go.Proofs.YtinidiiachedbaaDoor
