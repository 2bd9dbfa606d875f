/- PkMayE -/
import Derived.Test.YtcpjignlhlcnpaaDoorPkgNamesRowG29
set_option linter.unusedSimpArgs false
set_option linter.unusedVariables false
/- Walk: pkg.May where it fails ahead of a package's Obsoletes, Files and rich dependencies: of those nothing is asked. -/

namespace Go.Proofs.YtcpjignlhlcnpaaDoor
open Go.RowKit Go.Shelf
set_option linter.unusedVariables false
attribute [local go_sem] Oper.semAt_some
attribute [local go_sem ↓ high] asked_wide

structure Pk.early (B : Nat) (W : World) (p : Pk) : Prop where
  ep : (Lit.int .i64 p.epoch).wf = true
  n0 : p.name.size ≤ maxLen
  n1 : p.ver.size ≤ maxLen
  n2 : p.rel.size ≤ maxLen
  prov : Rd encD 5 B p.provA p.provC p.prov W
  provW : ∀ d ∈ p.prov, d.wf
def earlyB (p : Pk) : Bool := nameB p.name.toList && (!fileB p.name.toList && (mayB p.evr false && (archB p.arch && (decide (p.vendor.size ≤ 64) && (decide (p.prov.length ≤ 32) && p.prov.all dmayB)))))
set_option maxRecDepth 100000 in
set_option maxHeartbeats 16000000 in
theorem pkmaye_in (p : Pk) (w : World) (hI : PkIn w) (hL : p.early w.heap.size w) (hbad : earlyB p = false) : CallsIn Fence.wide 8 Tryd.prog 6 #[p.val] w fun e w' => e = .returned (.bool false) ∧ Below w.heap.size w w' := by
  have n0 := hL.n0
  have hw : p.evr.wf := ⟨hL.ep, by show p.ver.toList.length ≤ maxLen; rw [size_toList]; exact hL.n1, by show p.rel.toList.length ≤ maxLen; rw [size_toList]; exact hL.n2⟩
  obtain ⟨r1, h1⟩ : ∃ r, r = nameB p.name.toList := ⟨_, rfl⟩
  obtain ⟨r2, h2⟩ : ∃ r, r = fileB p.name.toList := ⟨_, rfl⟩
  obtain ⟨r3, h3⟩ : ∃ r, r = mayB p.evr false := ⟨_, rfl⟩
  obtain ⟨r4, h4⟩ : ∃ r, r = archB p.arch := ⟨_, rfl⟩
  obtain ⟨r6, h6⟩ : ∃ r, r = (decide (p.prov.length ≤ 32) && p.prov.all dmayB) := ⟨_, rfl⟩
  have HM := Lib.hid (show (r1 && (!r2 && (r3 && (r4 && (decide (p.vendor.size ≤ 64) && r6))))) = false by rw [h1, h2, h3, h4, h6]; exact hbad)
  have NA := Lib.hid (fun W (h : Below w.heap.size w W) => dname_pk p.name W n0 (hI.below h))
  have FA := Lib.hid (fun W (h : Below w.heap.size w W) => dfile_pk p.name W n0 (hI.below h))
  have EA := Lib.hid (fun W => evmay_pkA p W hw)
  rw [← h1] at NA
  rw [← h2] at FA
  rw [← h3] at EA
  have AA := Lib.hid (fun W => archname_any p.arch W)
  obtain ⟨sa, hsa⟩ : ∃ s, s = archT p.arch := ⟨_, rfl⟩
  rw [← hsa] at AA
  have SAY := Lib.hid (show r4 = true → sa.toList ≠ [] from fun h => by rw [hsa]; exact archT_yes (h4 ▸ h))
  have SAN := Lib.hid (show r4 = false → sa = ⟨#[]⟩ from fun h => by rw [hsa]; exact archT_no (h4 ▸ h))
  have PA := Lib.hid (fun W (h : Below w.heap.size w W) => everydep_any p.prov p.provA p.provC W (hI.below h) ((hL.prov.below h).more h.size) hL.provW)
  rw [← h6] at PA
  clear h1 h2 h3 h4 h6 hsa
  unfold mayF at PA
  have M0 := Lib.hid (PMay.new w p)
  clear hI hL n0 hw hbad
  unfold Pk.val
  refine callsIn_of_wp_marks Tryd.func6 rfl trivial ?_ rfl
  simp only [Tryd.ntmps6, List.size_toArray, List.length_cons, List.length_nil, Nat.reduceAdd, Nat.reduceSub, Array.replicate_succ, Array.replicate_zero, List.push_toArray, List.append_toArray, List.nil_append, List.cons_append]
  gi_wp2_with fail
  refine ⟨trivial, ?_⟩
  gi_at_call 10
  refine (callsIn_wide.2 (NA.out _ M0.out.old)).mono ?_
  rintro e wn1 ⟨rfl, h⟩
  have M1 := Lib.hid (M0.out.then h)
  clear h M0
  obtain ⟨hl, c0, c1, c2, c3, c4, c5, c6, c7, c8, c9, c10, c11, c12, c13, c14⟩ := M1.out.box
  have rc := M1.out.res.cell
  have rf := M1.out.res.frozen
  cases r1
  · gi_wp2_with fail; refine ⟨trivial, ?_⟩; gi_wp2_with fail; refine ⟨trivial, ?_⟩; gi_wp2_with fail
    refine ⟨.bool false, by simp [results, Tryd.results6, go_sem, (M1.out.set false).res.cell], rfl, (M1.out.set false).old⟩
  gi_wp2_with fail
  refine ⟨trivial, ?_⟩
  gi_at_call 11
  refine (callsIn_wide.2 (FA.out _ M1.out.old)).mono ?_
  rintro e wn2 ⟨rfl, h⟩
  have M2 := Lib.hid (M1.out.then h)
  clear h M1
  clear hl rc rf c0 c1 c2 c3 c4 c5 c6 c7 c8 c9 c10 c11 c12 c13 c14
  obtain ⟨hl, c0, c1, c2, c3, c4, c5, c6, c7, c8, c9, c10, c11, c12, c13, c14⟩ := M2.out.box
  have rc := M2.out.res.cell
  have rf := M2.out.res.frozen
  cases r2
  rotate_left
  · gi_wp2_with fail; refine ⟨trivial, ?_⟩; gi_wp2_with fail
    refine ⟨.bool false, by simp [results, Tryd.results6, go_sem, (M2.out.set false).res.cell], rfl, (M2.out.set false).old⟩
  gi_wp2_with fail
  refine ⟨trivial, ?_⟩
  gi_at_call 12
  refine (callsIn_wide.2 (EA.out _)).mono ?_
  rintro e wn3 ⟨rfl, h⟩
  have M3 := Lib.hid (M2.out.then h)
  clear h M2
  clear hl rc rf c0 c1 c2 c3 c4 c5 c6 c7 c8 c9 c10 c11 c12 c13 c14
  obtain ⟨hl, c0, c1, c2, c3, c4, c5, c6, c7, c8, c9, c10, c11, c12, c13, c14⟩ := M3.out.box
  have rc := M3.out.res.cell
  have rf := M3.out.res.frozen
  cases r3
  · gi_wp2_with fail
    refine ⟨.bool false, by simp [results, Tryd.results6, go_sem, (M3.out.set false).res.cell], rfl, (M3.out.set false).old⟩
  gi_wp2_with fail
  refine ⟨trivial, ?_⟩
  gi_at_call 13
  refine (callsIn_wide.2 (AA.out _)).mono ?_
  rintro e wn4 ⟨rfl, h⟩
  have M4 := Lib.hid (M3.out.then h)
  clear h M3
  clear hl rc rf c0 c1 c2 c3 c4 c5 c6 c7 c8 c9 c10 c11 c12 c13 c14
  obtain ⟨hl, c0, c1, c2, c3, c4, c5, c6, c7, c8, c9, c10, c11, c12, c13, c14⟩ := M4.out.box
  have rc := M4.out.res.cell
  have rf := M4.out.res.frozen
  cases r4
  · have e0 := SAN.out rfl
    clear SAN SAY
    subst e0
    gi_wp2_with fail
    refine ⟨.bool false, by simp [results, Tryd.results6, go_sem, (M4.out.set false).res.cell], rfl, (M4.out.set false).old⟩
  have s0 := SAY.out rfl
  have s1 : sa.toList.isEmpty = false := by simpa using s0
  have s2 : (!sa.toList.isEmpty) = true := by simpa using s0
  clear SAY SAN
  by_cases hv : (64 : Int) < (p.vendor.size : Int)
  · have hv2 : decide (p.vendor.size ≤ 64) = false := decide_eq_false (by omega)
    have HV := Lib.hid hv2
    clear hv2
    gi_wp2_with fail
    refine ⟨.bool false, by simp [results, Tryd.results6, go_sem, (M4.out.set false).res.cell], rfl, (M4.out.set false).old⟩
  have HV := Lib.hid (show decide (p.vendor.size ≤ 64) = true from decide_eq_true (by omega))
  gi_wp2_with fail
  refine ⟨trivial, ?_⟩
  gi_at_call 14
  refine (callsIn_wide.2 (PA.out _ M4.out.old)).mono ?_
  rintro e wn5 ⟨rfl, h⟩
  have M5 := Lib.hid (M4.out.then h)
  clear h M4
  clear hl rc rf c0 c1 c2 c3 c4 c5 c6 c7 c8 c9 c10 c11 c12 c13 c14
  obtain ⟨hl, c0, c1, c2, c3, c4, c5, c6, c7, c8, c9, c10, c11, c12, c13, c14⟩ := M5.out.box
  have rc := M5.out.res.cell
  have rf := M5.out.res.frozen
  cases r6
  · gi_wp2_with fail; refine ⟨trivial, ?_⟩; gi_wp2_with fail; refine ⟨trivial, ?_⟩; gi_wp2_with fail
    refine ⟨.bool false, by simp [results, Tryd.results6, go_sem, (M5.out.set false).res.cell], rfl, (M5.out.set false).old⟩
  have hm := HM.out
  rw [HV.out] at hm
  exact absurd hm (by decide)
theorem pkmaye_any (p : Pk) (w : World) (hI : PkIn w) (hL : p.early w.heap.size w) (hbad : earlyB p = false) : Calls Tryd.prog 6 #[p.val] w fun e w' => e = .returned (.bool false) ∧ Below w.heap.size w w' := callsIn_wide.1 (pkmaye_in p w hI hL hbad)
end Go.Proofs.YtcpjignlhlcnpaaDoor
