/- VercmpTells, walked. -/
import Derived.Test.YtaibdghalhbpnaaDoorVmStat
import Derived.RegionTactic
import Derived.ChangeAlike
namespace Go.Proofs.YtaibdghalhbpnaaDoor
open Go.RowKit Go.Shelf

set_option maxRecDepth 100000 in
set_option maxHeartbeats 16000000 in
theorem vercmpTells_row (w : World) (a : ByteArray) (za : a.size ≤ reachBytes) (b : ByteArray) (zb : b.size ≤ reachBytes) : Calls Tryd.prog 10 #[.string a, .string b] w fun e w' => e = .returned (.bool true) ∧ Below w.heap.size w w' := by
  have AW := Lib.hid (fun W => awake02 W)
  have qa : (a.size : Int) ≤ 140737488351232 := by have : reachBytes = 140737488351232 := rfl; omega
  have qb : (b.size : Int) ≤ 140737488351232 := by have : reachBytes = 140737488351232 := rfl; omega
  clear za zb
  by_cases h1 : (2000 : Int) < (a.size : Int)
  · go_enter Tryd.func10, Tryd.ntmps10
    go_wp2_with fail
    go_at_call 36
    refine (AW.out _).mono ?_
    rintro e9 w9 ⟨rfl, h⟩
    go_wp2
    go_ret
    exact ⟨rfl, h⟩
  by_cases h2 : (2000 : Int) < (b.size : Int)
  · go_enter Tryd.func10, Tryd.ntmps10
    go_wp2_with fail
    go_at_call 36
    refine (AW.out _).mono ?_
    rintro e9 w9 ⟨rfl, h⟩
    go_wp2
    go_ret
    exact ⟨rfl, h⟩
  have sa : a.size ≤ 2000 := by omega
  have sb : b.size ≤ 2000 := by omega
  have CA := Lib.hid (fun W => comp_any a b W (by omega) (by omega))
  have CR := Lib.hid (fun W => rcomp_any a b W (by omega) (by omega))
  have PA := Lib.hid (fun W => parts_any a W (by omega))
  have PR := Lib.hid (fun W => rparts_any a W (by omega))
  have na := pts_len a.toList
  rw [size_toList] at na
  generalize comp a.toList b.toList = r at *
  generalize pts a.toList = la at *
  have nl : la.length ≤ 2000 := by omega
  clear na sa sb
  go_enter Tryd.func10, Tryd.ntmps10
  go_wp2_with fail
  go_at_call 37
  refine (PA.out _).mono ?_
  rintro e1 w1 ⟨v1, rfl, hv1, B1⟩
  obtain ⟨A, c, rfl, hrA⟩ := hv1.rd (fun _ => rfl)
  clear hv1
  go_wp2_with fail
  go_at_call 38
  refine (PR.out _).mono ?_
  rintro e2 w2 ⟨v2, rfl, hv2, B2⟩
  obtain ⟨Bm, d, rfl, hrB⟩ := hv2.rd (fun _ => rfl)
  clear hv2
  have hrA2 := hrA.withB B2
  clear hrA
  have B3 := B1.trans (B2.mono B1.size)
  clear B1 B2
  have HA := Lib.hid hrA2
  have HB := Lib.hid hrB
  clear hrA2 hrB
  go_wp2_with fail
  go_loopw [7] (fun i wr => ∃ k : Nat, k ≤ la.length ∧ i = .int .i64 (k : Int) ∧ Below w2.heap.size w2 wr) (fun i _ => la.length - (intOf i).toNat)
  case atStart => exact ⟨0, by omega, rfl, Below.refl _ _⟩
  case round =>
    obtain ⟨k, hk, rfl, hB⟩ := hrel
    rename World => wr
    by_cases hlt : k < la.length
    · obtain ⟨b1, o1, rfl, _, x0, x1⟩ := (HA.out.below hB).at2 (f := fun p : Prt => .int .u8 p.1) (g := fun p : Prt => .string (bs p.2)) (fun _ => rfl) hlt
      obtain ⟨b2, o2, rfl, _, y0, y1⟩ := (HB.out.below hB).at2 (f := fun p : Prt => .int .u8 p.1) (g := fun p : Prt => .string (bs p.2)) (fun _ => rfl) hlt
      generalize la[k] = p at *
      have HBl := Lib.hid hB
      clear hB
      have i0 : (0 : Int) ≤ (k : Int) := by omega
      have i1 : (k : Int) < (la.length : Int) := by omega
      go_wp2_with fail
      go_region
      go_wp2_with fail
      go_roundw
      case rel => exact ⟨k + 1, by omega, by go_num, HBl.out.drew⟩
      case measure => simp [intOf]; omega
    · have B4 := B3.trans (hB.mono B3.size)
      have hn : ¬ (k : Int) < (la.length : Int) := by omega
      clear HA HB
      go_wp2_with fail
      go_at_call 39
      refine (CA.out _).mono ?_
      rintro e5 w5 ⟨rfl, h⟩
      have B5 := B4.trans (h.mono B4.size)
      clear h
      go_wp2_with fail
      go_at_call 40
      refine (CR.out _).mono ?_
      rintro e6 w6 ⟨rfl, h⟩
      have B6 := B5.trans (h.mono B5.size)
      clear h
      go_wp2_with fail
      go_at_call 36
      refine (AW.out _).mono ?_
      rintro e7 w7 ⟨rfl, h⟩
      have B7 := B6.trans (h.mono B6.size)
      clear h
      go_wp2
      go_ret
      exact ⟨rfl, B7⟩
end Go.Proofs.YtaibdghalhbpnaaDoor
