/- R30D -/
import Derived.Test.YteobmfpbgnmffaaGreatDoorT43
set_option linter.unusedVariables false
set_option maxHeartbeats 16000000
set_option maxRecDepth 100000
open Go.Lib (hid)
set_option linter.unusedSimpArgs false
namespace Go.Proofs.YteobmfpbgnmffaaGreatDoor
open Go.RowKit Go.Shelf Go.Maps
theorem qMU (k : Int) (h : qBA k = true) : qBT k = false := by
 unfold qBA at h;unfold qBT;simp only [Bool.and_eq_true, decide_eq_true_eq] at h;rw [decide_eq_false (by omega), Bool.false_and]
theorem qD1 (l : List Int) (x z : Int) : (l ++ [x]).contains z = (l.contains z || z == x) := by
 rw [Bool.eq_iff_iff]; simp
theorem qR0 {D : List (Int × Int)} {i k : Nat} {z : Int} (hk : k < D.length) (hki : k < i) (h : D[k].2 = z) : (kys D i).contains z = true := by
 unfold kys;rw [List.contains_iff_mem];refine List.mem_map.2 ⟨D[k], List.mem_take_iff_getElem.2 ⟨k, by omega, rfl⟩, h⟩
theorem qJE {Q I0 : Nat} {L : List Pk} {w : World} (hp : RPool Q (I0 : Int) L w) (A : Option Addr) (c : Nat) (D : List (Int × Int)) (hD : Rd qBG 2 w.heap.size A c D w) (hDl : D.length <= 1000000) (hn : L.length <= 1000000) (hI0 : I0 <= L.length) : Calls Tryz.prog 28 #[.pointer (some ⟨Q, 0, none⟩), .slice A D.length c] w fun e w' => ∃ v, e = .returned (.tuple #[v, .int .i64 (qAZ L.length I0 D)]) /\ Own encI 1 w.heap.size 3 v (qAR L.length I0 D) w' /\ Below w.heap.size w w' := by
 have IS := hid (fun (z : Int) => qKW z w hp (by omega));obtain ⟨A9, c9, c0, hR9⟩ := hp.at_.c0;have c1 := hp.at_.c1;have QL := hid hp.at_.lt;obtain ⟨N, hN⟩ : ∃ N, L.length = N := ⟨_, rfl⟩;rw [hN] at IS c0 hn hI0 |-;have C0 := hid c0;have C1 := hid c1;obtain ⟨m, hm9⟩ : ∃ m, D.length = m := ⟨_, rfl⟩;have HM := hid hm9;rw [hm9] at hDl |-;have HD := hid hD;have HIN := hid hI0;have hI1 : I0 <= 1000000 := by omega
 clear hp hD hN hm9 hR9 hI0 c0 c1;obtain ⟨i0, hi, hz0, hz1, hz2⟩ := info_parts qLI
 go_enter Tryz.func28, Tryz.ntmps28
 go_wp2_with fail
 go_loopw [6] (fun iv wr => ∃ j : Nat, j <= m /\ iv = .int .i64 (j : Int) /\ Hid (∀ i (hi : i < D.length), i < j -> 0 <= D[i].2 /\ D[i].2 < (N : Int)) /\ w = wr) (fun iv _ => m - (intOf iv).toNat)
 case atStart => exact ⟨0, by omega, rfl, hid (by intro i hi h; omega), rfl⟩
 case round =>
  obtain ⟨j, hj, rfl, HS, rfl⟩ := hrel;by_cases hlt : j < m
  ·have hjl : j < D.length := by have := HM.out; omega
   obtain ⟨b, o, hA, hb, e0, e1⟩ := (HD.out).st_at hjl;have HBAD := hid (fun (h : ¬ (0 <= D[j].2 /\ D[j].2 < (N : Int))) => show qAZ N I0 D = 5 by
    unfold qAZ;rw [if_pos];rw [<- Bool.not_eq_false, qDG];intro hh;exact h (hh D[j].2 (List.mem_map_of_mem (List.getElem_mem hjl))))
   have HNX := hid (fun (h : 0 <= D[j].2 /\ D[j].2 < (N : Int)) => show ∀ i (hi : i < D.length), i < j + 1 -> 0 <= D[i].2 /\ D[i].2 < (N : Int) from fun i hi hij => by
    by_cases e : i = j
    ·subst e; exact h
    ·exact HS.out i hi (by omega))
   have ISZ := hid (IS.out D[j].2);subst hA;generalize D[j].1 = kk at *;generalize D[j].2 = z at *;have i0' : (0 : Int) <= (j : Int) := by omega
   have i1 : (j : Int) < (m : Int) := by omega
   clear hjl hb e0;go_wp2_with fail
   go_at_call 88
   refine ISZ.out.mono ?_;rintro e wq ⟨rfl, rfl⟩;by_cases hz : 0 <= z /\ z < (N : Int)
   ·rw [decide_eq_true hz];have HNX := hid (HNX.out hz);clear hz HBAD;go_wp2_with fail
    go_roundw
    case rel => exact ⟨j + 1, by omega, by go_num, hid HNX.out, by first | rfl | trivial⟩
    case measure => simp [intOf]; omega
   ·rw [decide_eq_false hz];have HE := hid (HBAD.out hz);have HV := hid (show qAR N I0 D = [] by unfold qAR; rw [HE.out]; rfl);clear hz HNX HBAD;go_wp2_with fail
    go_ret2
    exact ⟨_, by rw [HE.out]; rfl, by rw [HV.out]; exact Own.nil_ _ _ _, Below.refl _ _⟩
  ·obtain rfl : j = m := by omega
   have j1 : ¬ (j : Int) < (j : Int) := by omega
   have HAL := hid (show ∀ i (hi : i < D.length), 0 <= D[i].2 /\ D[i].2 < (N : Int) from fun i hi => HS.out i hi (by have := HM.out; omega));have HBS := hid (show badS N (D.map fun x => x.2) = false from qDG.2 fun z hz => by
    obtain ⟨x, hx, rfl⟩ := List.mem_map.1 hz;obtain ⟨i, hi, rfl⟩ := List.getElem_of_mem hx;exact HAL.out i hi)
   clear HS IS;go_wp2_with fail
   go_loopw [7] (fun iv wx => ∃ i : Nat, i <= j /\ iv = .int .i64 (i : Int) /\ Hid (qB6 I0 [] D = qB6 I0 (kys D i) (D.drop i)) /\ Hid (∀ k (hk : k < D.length), k < i -> (kys D k).contains D[k].2 = false) /\ Below w.heap.size w wx) (fun iv _ => j - (intOf iv).toNat)
   case atStart => exact ⟨0, by omega, rfl, hid rfl, hid (by intro k hk h; omega), Below.refl _ _⟩
   case round =>
    obtain ⟨i, hi', rfl, HF, HND, hB2⟩ := hrel;rename World => wx
    have BX := hid hB2;clear hB2;have c0 := (BX.out.cell (p := ⟨Q, 0, none⟩) QL.out).trans C0.out;have c1 := (BX.out.cell (p := ⟨Q, 1, none⟩) QL.out).trans C1.out;by_cases hlt2 : i < j
    ·have hil : i < D.length := by have := HM.out; omega
     obtain ⟨b, o, hA, hb, e0, e1⟩ := (HD.out.below BX.out).st_at hil;have HKC := hid (fun k (hk : k < D.length) W (hW : Below w.heap.size w W) => show W.cell? ⟨b, o + k * 2 + 1, none⟩ = some (.int .i64 D[k].2) from by
      obtain ⟨b', o', e, _, _, h⟩ := (HD.out.below hW).st_at hk;rw [hA] at e;cases e
      exact h)
     have HST := hid (show qB6 I0 [] D = (!(kys D i).contains D[i].2 && (if D[i].2 < (I0 : Int) then qBT D[i].1 else qBA D[i].1) && qB6 I0 (kys D (i + 1)) (D.drop (i + 1))) from by
      rw [HF.out, List.drop_eq_getElem_cons hil, qDN hil];rfl)
     have HNX := hid (fun (h : (kys D i).contains D[i].2 = false) => show ∀ k (hk : k < D.length), k < i + 1 -> (kys D k).contains D[k].2 = false from fun k hk hki => by
      by_cases e : k = i
      ·subst e; exact h
      ·exact HND.out k hk (by omega))
     obtain ⟨kk, hkk⟩ : ∃ kk, D[i].1 = kk := ⟨_, rfl⟩;obtain ⟨z, hz⟩ : ∃ z, D[i].2 = z := ⟨_, rfl⟩;rw [hkk, hz] at HST;rw [hz] at HNX e1;rw [hkk] at e0;have EB := hid (show b < w.heap.size from hb);have E0 := hid e0;have E1 := hid e1;subst hA;have i0' : (0 : Int) <= (i : Int) := by omega
     have i1 : (i : Int) < (j : Int) := by omega
     have CM := hid (fun W => qHF kk W);have GM := hid (fun W => qJM kk W);have DJ := hid (show qBA kk = true -> qBT kk = false from qMU kk);obtain ⟨kc, hkc⟩ : ∃ kc, qBA kk = kc := ⟨_, rfl⟩;obtain ⟨kg, hkg⟩ : ∃ kg, qBT kk = kg := ⟨_, rfl⟩;rw [hkc] at CM;rw [hkg] at GM;rw [hkc, hkg] at HST DJ;have HZ := hid hz; clear hkk hz hkc hkg hb;by_cases hzi : z < (I0 : Int)
     ·skip
      have HZI := hid hzi
      replace HST := hid (show qB6 I0 [] D = (!(kys D i).contains z && kg && qB6 I0 (kys D (i + 1)) (D.drop (i + 1))) from HST.out.trans (by rw [if_pos hzi]))
      have HZD := hid (show decide (z < (I0 : Int)) = true from by simpa using hzi);go_wp2_with fail
      go_quiet (fail)
      try rw [HZD.out]
      go_wp2_with fail
      try rw [HZD.out]
      cases kc
      ·have DJ := DJ;cases kg
       ·have HE := hid (show qAZ N I0 D = 4 by unfold qAZ; rw [HBS.out, HST.out]; simp);have HV := hid (show qAR N I0 D = [] by unfold qAR; rw [HE.out]; rfl);clear HKC HST HNX DJ;go_at_call 32
        refine (CM.out _).mono ?_;rintro e wq ⟨rfl, rfl⟩;go_wp2_with fail
        go_at_call 34
        refine (GM.out _).mono ?_;rintro e wq ⟨rfl, rfl⟩;go_wp2_with fail
        go_ret2
        exact ⟨_, by rw [HE.out]; rfl, by rw [HV.out]; exact Own.nil_ _ _ _, by first | exact qAH BX.out | exact BX.out⟩
       ·skip
        go_at_call 32
        refine (CM.out _).mono ?_;rintro e wq ⟨rfl, rfl⟩;go_wp2_with fail
        go_at_call 34
        refine (GM.out _).mono ?_;rintro e wq ⟨rfl, rfl⟩;go_wp2_with fail
        go_at_call 32
        refine (CM.out _).mono ?_;rintro e wq ⟨rfl, rfl⟩;go_wp2_with fail
        have HST := hid (show qB6 I0 [] D = (!(kys D i).contains z && qB6 I0 (kys D (i + 1)) (D.drop (i + 1))) from by rw [HST.out]; simp);have BW := hid (qAH BX.out (n := 1));clear BW
        go_loopw [9] (fun kv wy => ∃ k : Nat, k <= i /\ kv = .int .i64 (k : Int) /\ Hid ((kys D k).contains z = false) /\ Below w.heap.size w wy) (fun kv _ => i - (intOf kv).toNat)
        case atStart => exact ⟨0, by omega, rfl, hid rfl, by first | exact qAH BX.out | exact BX.out⟩
        case round =>
         obtain ⟨k, hk', rfl, HKN, hBY⟩ := hrel;rename World => wy
         have BY := hid hBY;clear hBY c0 c1 e0 e1;by_cases hlt3 : k < i
         ·have hkl : k < D.length := by have := HM.out; omega
          have e1 := HKC.out i hil wy BY.out;have e2 := HKC.out k hkl wy BY.out;rw [HZ.out] at e1;have HKS := hid (show (kys D (k + 1)).contains z = (D[k].2 == z) from by rw [qDN hkl, qD1, HKN.out, Bool.false_or]; exact Bool.beq_comm);have HHIT := hid (fun (h : D[k].2 = z) => show (kys D i).contains z = true from qR0 hkl hlt3 h);generalize D[k].2 = z9 at *;have k0 : (0 : Int) <= (k : Int) := by omega
          have k1 : (k : Int) < (j : Int) := by omega
          have k2 : (k : Int) < (i : Int) := by omega
          by_cases hzz : z9 = z
          ·subst hzz;have HE := hid (show qAZ N I0 D = 4 by unfold qAZ; rw [HBS.out, HST.out, HHIT.out rfl]; simp);have HV := hid (show qAR N I0 D = [] by unfold qAR; rw [HE.out]; rfl);clear HKC HHIT HKS HST;go_wp2_with fail
           go_quiet (fail);go_wp2_with fail
           go_ret2
           exact ⟨_, by rw [HE.out]; rfl, by rw [HV.out]; exact Own.nil_ _ _ _, by first | exact qAH BY.out | exact BY.out⟩
          ·have HKS := hid (show (kys D (k + 1)).contains z = false from by rw [HKS.out]; simpa using hzz);have hq : (z9 == z) = false := by simpa using hzz
           clear HHIT;go_wp2_with fail
           go_quiet (fail);go_wp2_with fail
           go_roundw
           case rel => exact ⟨k + 1, by omega, by go_num, hid HKS.out, by first | exact qAH BY.out | exact BY.out⟩
           case measure => simp [intOf]; omega
         ·obtain rfl : k = i := by omega
          have k2 : ¬ (k : Int) < (k : Int) := by omega
          have HR := hid (show qB6 I0 [] D = qB6 I0 (kys D (k + 1)) (D.drop (k + 1)) from by rw [HST.out, HKN.out]; rfl);have HNX := hid (HNX.out HKN.out);clear HST HKC HKN;go_wp2_with fail
          go_roundw
          case rel => exact ⟨k + 1, by omega, by go_num, hid HR.out, hid HNX.out, BY.out⟩
          case measure => simp [intOf]; omega
      ·obtain rfl : kg = false := DJ.out rfl;have HE := hid (show qAZ N I0 D = 4 by unfold qAZ; rw [HBS.out, HST.out]; simp);have HV := hid (show qAR N I0 D = [] by unfold qAR; rw [HE.out]; rfl);clear HKC HST HNX DJ;go_at_call 32
       refine (CM.out _).mono ?_;rintro e wq ⟨rfl, rfl⟩;go_wp2_with fail
       go_at_call 32
       refine (CM.out _).mono ?_;rintro e wq ⟨rfl, rfl⟩;go_wp2_with fail
       go_ret2
       exact ⟨_, by rw [HE.out]; rfl, by rw [HV.out]; exact Own.nil_ _ _ _, by first | exact qAH BX.out | exact BX.out⟩
     ·skip
      have HZI := hid hzi
      replace HST := hid (show qB6 I0 [] D = (!(kys D i).contains z && kc && qB6 I0 (kys D (i + 1)) (D.drop (i + 1))) from HST.out.trans (by rw [if_neg hzi]))
      have HZD := hid (show decide (z < (I0 : Int)) = false from by simpa using hzi);go_wp2_with fail
      go_quiet (fail)
      try rw [HZD.out]
      go_wp2_with fail
      try rw [HZD.out]
      cases kc
      ·have DJ := DJ;cases kg
       ·have HE := hid (show qAZ N I0 D = 4 by unfold qAZ; rw [HBS.out, HST.out]; simp);have HV := hid (show qAR N I0 D = [] by unfold qAR; rw [HE.out]; rfl);clear HKC HST HNX DJ;go_at_call 32
        refine (CM.out _).mono ?_;rintro e wq ⟨rfl, rfl⟩;go_wp2_with fail
        go_at_call 34
        refine (GM.out _).mono ?_;rintro e wq ⟨rfl, rfl⟩;go_wp2_with fail
        go_ret2
        exact ⟨_, by rw [HE.out]; rfl, by rw [HV.out]; exact Own.nil_ _ _ _, by first | exact qAH BX.out | exact BX.out⟩
       ·have HE := hid (show qAZ N I0 D = 4 by unfold qAZ; rw [HBS.out, HST.out]; simp);have HV := hid (show qAR N I0 D = [] by unfold qAR; rw [HE.out]; rfl);clear HKC HST HNX DJ;go_at_call 32
        refine (CM.out _).mono ?_;rintro e wq ⟨rfl, rfl⟩;go_wp2_with fail
        go_at_call 34
        refine (GM.out _).mono ?_;rintro e wq ⟨rfl, rfl⟩;go_wp2_with fail
        go_at_call 32
        refine (CM.out _).mono ?_;rintro e wq ⟨rfl, rfl⟩;go_wp2_with fail
        go_ret2
        exact ⟨_, by rw [HE.out]; rfl, by rw [HV.out]; exact Own.nil_ _ _ _, by first | exact qAH BX.out | exact BX.out⟩
      ·obtain rfl : kg = false := DJ.out rfl;go_at_call 32
       refine (CM.out _).mono ?_;rintro e wq ⟨rfl, rfl⟩;go_wp2_with fail
       go_at_call 32
       refine (CM.out _).mono ?_;rintro e wq ⟨rfl, rfl⟩;go_wp2_with fail
       have HST := hid (show qB6 I0 [] D = (!(kys D i).contains z && qB6 I0 (kys D (i + 1)) (D.drop (i + 1))) from by rw [HST.out]; simp);have BW := hid (qAH BX.out (n := 1));clear BW
       go_loopw [9] (fun kv wy => ∃ k : Nat, k <= i /\ kv = .int .i64 (k : Int) /\ Hid ((kys D k).contains z = false) /\ Below w.heap.size w wy) (fun kv _ => i - (intOf kv).toNat)
       case atStart => exact ⟨0, by omega, rfl, hid rfl, by first | exact qAH BX.out | exact BX.out⟩
       case round =>
        obtain ⟨k, hk', rfl, HKN, hBY⟩ := hrel;rename World => wy
        have BY := hid hBY;clear hBY c0 c1 e0 e1;by_cases hlt3 : k < i
        ·have hkl : k < D.length := by have := HM.out; omega
         have e1 := HKC.out i hil wy BY.out;have e2 := HKC.out k hkl wy BY.out;rw [HZ.out] at e1;have HKS := hid (show (kys D (k + 1)).contains z = (D[k].2 == z) from by rw [qDN hkl, qD1, HKN.out, Bool.false_or]; exact Bool.beq_comm);have HHIT := hid (fun (h : D[k].2 = z) => show (kys D i).contains z = true from qR0 hkl hlt3 h);generalize D[k].2 = z9 at *;have k0 : (0 : Int) <= (k : Int) := by omega
         have k1 : (k : Int) < (j : Int) := by omega
         have k2 : (k : Int) < (i : Int) := by omega
         by_cases hzz : z9 = z
         ·subst hzz;have HE := hid (show qAZ N I0 D = 4 by unfold qAZ; rw [HBS.out, HST.out, HHIT.out rfl]; simp);have HV := hid (show qAR N I0 D = [] by unfold qAR; rw [HE.out]; rfl);clear HKC HHIT HKS HST;go_wp2_with fail
          go_quiet (fail);go_wp2_with fail
          go_ret2
          exact ⟨_, by rw [HE.out]; rfl, by rw [HV.out]; exact Own.nil_ _ _ _, by first | exact qAH BY.out | exact BY.out⟩
         ·have HKS := hid (show (kys D (k + 1)).contains z = false from by rw [HKS.out]; simpa using hzz);have hq : (z9 == z) = false := by simpa using hzz
          clear HHIT;go_wp2_with fail
          go_quiet (fail);go_wp2_with fail
          go_roundw
          case rel => exact ⟨k + 1, by omega, by go_num, hid HKS.out, by first | exact qAH BY.out | exact BY.out⟩
          case measure => simp [intOf]; omega
        ·obtain rfl : k = i := by omega
         have k2 : ¬ (k : Int) < (k : Int) := by omega
         have HR := hid (show qB6 I0 [] D = qB6 I0 (kys D (k + 1)) (D.drop (k + 1)) from by rw [HST.out, HKN.out]; rfl);have HNX := hid (HNX.out HKN.out);clear HST HKC HKN;go_wp2_with fail
         go_roundw
         case rel => exact ⟨k + 1, by omega, by go_num, hid HR.out, hid HNX.out, BY.out⟩
         case measure => simp [intOf]; omega
    ·obtain rfl : i = j := by omega
     have j2 : ¬ (i : Int) < (i : Int) := by omega
     have HKY := hid (show kys D i = D.map fun x => x.2 from by unfold kys; rw [List.take_of_length_le (by have := HM.out; omega)]);have HE := hid (show qAZ N I0 D = 0 by unfold qAZ; rw [HBS.out, HF.out, List.drop_eq_nil_of_le (by have := HM.out; omega)]; rfl);have HV := hid (show qAR N I0 D = qE0 N I0 (kys D i) by unfold qAR; rw [HE.out, HKY.out]; rfl);clear HF HKY HAL HBS;go_wp2_with fail
     go_loopw [10, 11] (fun v nv wy => ∃ n : Nat, n <= N /\ nv = .int .i64 (n : Int) /\ Own encI 1 w.heap.size 3 v (qE0 n I0 (kys D i)) wy /\ Below w.heap.size w wy) (fun _ nv _ => N - (intOf nv).toNat)
     case atStart => exact ⟨0, by omega, rfl, Own.nil_ _ _ _, BX.out⟩
     case round =>
      obtain ⟨n, hn', rfl, how, hby⟩ := hrel;rename World => wy
      have OV := hid how;have BY := hid hby;clear how hby c0 c1;have c0 := (BY.out.cell (p := ⟨Q, 0, none⟩) QL.out).trans C0.out;have c1 := (BY.out.cell (p := ⟨Q, 1, none⟩) QL.out).trans C1.out;by_cases hlt3 : n < N
      ·have i1 : (n : Int) < (N : Int) := by omega
       have HTV := hid (show qE0 (n + 1) I0 (kys D i) = qE0 n I0 (kys D i) ++ (if (kys D i).contains (n : Int) != decide (n < I0) then [(n : Int)] else []) from qH8 _ _ _);have HTL := hid (show (qE0 n I0 (kys D i)).length <= n from qIF _);obtain ⟨bi, hbi⟩ : ∃ bi, decide (n < I0) = bi := ⟨_, rfl⟩;rw [hbi] at HTV;have HBI := hid (show decide ((n : Int) < (I0 : Int)) = bi from by rw [<- hbi]; exact decide_eq_decide.2 (by omega));have HBN := hid hbi;clear hbi;go_wp2_with fail
       try rw [HBI.out]
       try rw [HBN.out]
       go_loopw [12, 13] (fun bv iv wz => ∃ k : Nat, k <= i /\ iv = .int .i64 (k : Int) /\ bv = .bool ((kys D k).contains (n : Int) != bi) /\ wy = wz) (fun _ iv _ => i - (intOf iv).toNat)
       case atStart => exact ⟨0, by omega, rfl, by cases bi <;> rfl, by first | rfl | trivial⟩
       case round =>
        obtain ⟨k, hk', rfl, rfl, rfl⟩ := hrel;by_cases hlt4 : k < i
        ·have hkl : k < D.length := by have := HM.out; omega
         obtain ⟨b, o, hA, hb, e0, e1⟩ := (HD.out.below BY.out).st_at hkl;have HNK := hid (HND.out k hkl hlt4);have HKS := hid (show (kys D (k + 1)).contains (n : Int) = ((kys D k).contains (n : Int) || (n : Int) == D[k].2) from by rw [qDN hkl, qD1]);subst hA;generalize D[k].2 = z at *;have k0 : (0 : Int) <= (k : Int) := by omega
         have k1 : (k : Int) < (i : Int) := by omega
         clear e0 hb hkl;by_cases hzn : z = (n : Int)
         ·subst hzn;rw [HNK.out];have HKS := hid (show (kys D (k + 1)).contains (n : Int) = true from by rw [HKS.out]; simp);clear HNK;go_wp2_with fail
          go_roundw
          case rel => exact ⟨k + 1, by omega, by go_num, by rw [HKS.out]; cases bi <;> rfl, by first | rfl | trivial⟩
          case measure => simp [intOf]; omega
         ·have hq : (z == (n : Int)) = false := by simpa using hzn
          have HKS := hid (show (kys D (k + 1)).contains (n : Int) = (kys D k).contains (n : Int) from by rw [HKS.out, beq_false_of_ne (fun h => hzn h.symm), Bool.or_false]);generalize (kys D k).contains (n : Int) = tk at *;clear HNK;go_wp2_with fail
          go_roundw
          case rel => exact ⟨k + 1, by omega, by go_num, by rw [HKS.out], by first | rfl | trivial⟩
          case measure => simp [intOf]; omega
        ·obtain rfl : k = i := by omega
         have k1 : ¬ (k : Int) < (k : Int) := by omega
         have BZ := BY;obtain ⟨tk, htk⟩ : ∃ tk, ((kys D k).contains (n : Int) != bi) = tk := ⟨_, rfl⟩;rw [htk] at HTV |-;clear htk HND;cases tk
         ·go_wp2_with fail
          go_roundw
          case rel => exact ⟨n + 1, by omega, by go_num, by rw [HTV.out]; simpa using OV.out, BZ.out⟩
          case measure => simp [intOf]; omega
         ·go_wp2_with (at_builtin; refine wpList_append_own _ rfl _ _ 42 rfl w.heap.size 3 i0 (.int .i64 0) 1 8 Tryz.underlying42 hi hz0 hz1 hz2 rfl (by decide) _ _ _ rfl (World.ownsRow.alloc OV.out _) ⟨wy.heap.size, 0, none⟩ 1 1 [.int .i64 (n : Int)] rfl rfl ?c1 ?c2 ?c3 ?c4 ?c5 ?c6)
          case c2 => simp [Value.oneCell']
          case c3 => have := HTL.out; unfold maxLen; omega
          case c4 => have := HTL.out; omega
          case c5 => first | exact cell_one_new _ _ _ | (have := BZ.out.size; first | omega | (simp only [World.size_alloc]; omega))
          case c6 =>
           intro v' w6 ho6 hg6 _;have OV6 := hid (Own.snoc (x := (n : Int)) ho6);have B6 := hid ((BZ.out.alloc BZ.out.size _).grown hg6 (by simp only [World.size_alloc]; have := BZ.out.size; omega) (fun j hj => (World.ownsRow.lt OV.out j hj).1));clear ho6 hg6;go_wp2_with fail
           go_roundw
           case rel => exact ⟨n + 1, by omega, by go_num, by rw [HTV.out]; exact OV6.out, B6.out⟩
           case measure => simp [intOf]; omega
      ·obtain rfl : n = N := by omega
       have j3 : ¬ (n : Int) < (n : Int) := by omega
       go_wp2_with fail
       go_ret2
       exact ⟨_, by rw [HE.out]; rfl, by rw [HV.out]; exact OV.out, BY.out⟩
