/- R30B -/
import Derived.Test.YteobmfpbgnmffaaGreatDoorT34
import Derived.Test.YteobmfpbgnmffaaGreatDoorT36
set_option linter.unusedVariables false
set_option maxHeartbeats 16000000
set_option maxRecDepth 100000
open Go.Lib (hid)
set_option linter.unusedSimpArgs false
namespace Go.Proofs.YteobmfpbgnmffaaGreatDoor
open Go.RowKit Go.Shelf
def nmQ (L : List Pk) (m k : Nat) : Bool := match L[m]?, L[k]? with | some y, some x => decide (y.name = x.name) | _, _ => false
def obQ (L : List Pk) (i j : Nat) : Bool := obsQ L (i : Int) (j : Int)
def cmpQ (L : List Pk) (i j : Nat) : Int := match L[i]?, L[j]? with | some x, some y => ecmp x.evr y.evr | _, _ => 0
def qW7 (L : List Pk) (n : Nat) (bo : Option Nat) (ov : Bool) : Int := match bo with | none => if ov then 5 else 1 | some b => if cmpQ L b n < 0 then 2 else if 0 < cmpQ L b n then 3 else 4
def qHV (b : Option Nat) : Int := match b with | none => -1 | some j => (j : Int)
theorem qA9 {c : Prop} [Decidable c] {a b : Prop} (h : c) (k : a) : if c then a else b := by rw [if_pos h]; exact k
theorem qAU {c : Prop} [Decidable c] {a b : Prop} (h : ¬ c) (k : b) : if c then a else b := by rw [if_neg h]; exact k
theorem qTL (p r : Pk) (W : World) (h1 : p.evr.ok) (h2 : r.evr.ok) : Calls Tryz.prog 134 #[.agg #[.int .i64 p.epoch, .string p.ver, .string p.rel], .agg #[.int .i64 r.epoch, .string r.ver, .string r.rel]] W fun e w' => e = .returned (.int .i64 (ecmp p.evr r.evr)) /\ Below W.heap.size W w' := by
 have h := qMB p.evr r.evr W h1.1 h2.1 h1.2 h2.2;unfold Evr.val Pk.evr at h;dsimp only at h;rw [qBX, qBX, qBX, qBX] at h;unfold Pk.evr;exact h
def qAM (Q b o N c b0 i j : Nat) (bi d : Int) (y x z : Pk) (nm nb m : Bool) (i_ : Nat) (v : Value) (W : World) : Prop := match i_ with
 | 0 => v = .pointer (some ⟨Q, 0, none⟩)
 | 1 => v = .pointer (some ⟨Q, 0, none⟩)
 | 2 => v = .pointer (some ⟨Q, 0, none⟩)
 | 3 => v = .slice (some ⟨b, o, none⟩) N c
 | 4 => v = .int .i64 (i : Int)
 | 5 => v = .pointer (some ⟨b, o + i * 15, none⟩)
 | 6 => v = .pointer (some ⟨b, o + i * 15, none⟩)
 | 7 => v = .string y.name
 | 8 => v = .pointer (some ⟨b0, 0, none⟩)
 | 9 => v = .string x.name
 | 10 => v = .bool nm
 | 11 => v = .bool nm
 | 12 => v = cond nm (.int .i64 bi) undef
 | 13 => v = cond nm (.bool nb) undef
 | 14 => v = cond nm (.bool nb) undef
 | 15 => v = cond (nm && !nb) (.pointer (some ⟨Q, 0, none⟩)) undef
 | 16 => v = cond (nm && !nb) (.pointer (some ⟨Q, 0, none⟩)) undef
 | 17 => v = cond (nm && !nb) (.pointer (some ⟨Q, 0, none⟩)) undef
 | 18 => v = cond (nm && !nb) (.slice (some ⟨b, o, none⟩) N c) undef
 | 19 => v = cond (nm && !nb) (.int .i64 (i : Int)) undef
 | 20 => v = cond (nm && !nb) (.pointer (some ⟨b, o + i * 15, none⟩)) undef
 | 21 => v = cond (nm && !nb) (.pointer (some ⟨b, o + i * 15 + 1, none⟩)) undef
 | 22 => v = cond (nm && !nb) (.agg #[.int .i64 y.epoch, .string y.ver, .string y.rel]) undef
 | 23 => v = cond (nm && !nb) (.pointer (some ⟨Q, 0, none⟩)) undef
 | 24 => v = cond (nm && !nb) (.pointer (some ⟨Q, 0, none⟩)) undef
 | 25 => v = cond (nm && !nb) (.pointer (some ⟨Q, 0, none⟩)) undef
 | 26 => v = cond (nm && !nb) (.slice (some ⟨b, o, none⟩) N c) undef
 | 27 => v = cond (nm && !nb) (.int .i64 bi) undef
 | 28 => v = cond (nm && !nb) (.pointer (some ⟨b, o + j * 15, none⟩)) undef
 | 29 => v = cond (nm && !nb) (.pointer (some ⟨b, o + j * 15 + 1, none⟩)) undef
 | 30 => v = cond (nm && !nb) (.agg #[.int .i64 z.epoch, .string z.ver, .string z.rel]) undef
 | 31 => v = cond (nm && !nb) (.int .i64 d) undef
 | 32 => v = cond (nm && !nb) (.bool m) undef
 | 33 => v = cond nm (.bool (nb || m)) undef
 | 34 => v = .bool (nm && (nb || m))
 | _ => False
theorem qNN (Q b o N c b0 i j : Nat) (bi d : Int) (y x z : Pk) (nm nb m : Bool) : ∀ i_ v w w', qAM Q b o N c b0 i j bi d y x z nm nb m i_ v w -> Below w.heap.size w w' -> qAM Q b o N c b0 i j bi d y x z nm nb m i_ v w' := by
 intro i_ v w w' h _
 match i_, h with
 | 0, h | 1, h | 2, h | 3, h | 4, h | 5, h | 6, h | 7, h | 8, h | 9, h | 10, h | 11, h | 12, h | 13, h | 14, h | 15, h | 16, h | 17, h | 18, h | 19, h | 20, h | 21, h | 22, h | 23, h | 24, h | 25, h | 26, h | 27, h | 28, h | 29, h | 30, h | 31, h | 32, h | 33, h | 34, h => exact h
 | (i_ + 35), h => exact h.elim
def qGQ (Q b o N c b0 j : Nat) (d : Int) (z x : Pk) (i_ : Nat) (v : Value) (W : World) : Prop := match i_ with
 | 0 => v = .pointer (some ⟨Q, 0, none⟩)
 | 1 => v = .pointer (some ⟨Q, 0, none⟩)
 | 2 => v = .pointer (some ⟨Q, 0, none⟩)
 | 3 => v = .slice (some ⟨b, o, none⟩) N c
 | 4 => v = .int .i64 (j : Int)
 | 5 => v = .pointer (some ⟨b, o + j * 15, none⟩)
 | 6 => v = .pointer (some ⟨b, o + j * 15 + 1, none⟩)
 | 7 => v = .agg #[.int .i64 z.epoch, .string z.ver, .string z.rel]
 | 8 => v = .pointer (some ⟨b0, 1, none⟩)
 | 9 => v = .agg #[.int .i64 x.epoch, .string x.ver, .string x.rel]
 | 10 => v = .int .i64 d
 | 11 => v = .int .i64 d
 | _ => False
theorem qNO (Q b o N c b0 j : Nat) (d : Int) (z x : Pk) : ∀ i_ v w w', qGQ Q b o N c b0 j d z x i_ v w -> Below w.heap.size w w' -> qGQ Q b o N c b0 j d z x i_ v w' := by
 intro i_ v w w' h _
 match i_, h with
 | 0, h | 1, h | 2, h | 3, h | 4, h | 5, h | 6, h | 7, h | 8, h | 9, h | 10, h | 11, h => exact h
 | (i_ + 12), h => exact h.elim
theorem qJN {Q I0 : Nat} {L : List Pk} (n : Nat) (A9 : Option Addr) (c9 : Nat) (S : List Int) (w : World) (hp : RPool Q (I0 : Int) L w) (hS : Rd encI 1 w.heap.size A9 c9 S w) (hSl : S.length <= 1000000) (hn : n < L.length) (hI : I0 <= n) (hN : L.length <= 1000000) : Calls Tryz.prog 90 #[.pointer (some ⟨Q, 0, none⟩), .slice A9 S.length c9, .int .i64 (n : Int), (L[n]).val] w fun e w' => e = .returned (.int .u8 (St.comesK I0 (nmQ L) (obQ L) (cmpQ L) S n)) /\ Below w.heap.size w w' := by
 obtain ⟨x, hx⟩ : ∃ x, L[n] = x := ⟨_, rfl⟩;rw [hx];have HAS := hid (fun (z : Int) W (hb : Below w.heap.size w W) => qLY A9 c9 S z W hSl ((hS.below hb).more hb.size));have OBA := hid (fun (i9 : Nat) (hi : i9 < I0) W (hb : Below w.heap.size w W) => qHO n i9 hn (by omega) (by omega) W (hp.then hb) hN);have RP := hid hp;have HIN := hid hI;have HNN := hid hn;have HNL := hid hN;have HSL := hid hSl;have HX := hid hx.symm;have P0 := hid (PkAt.new w x);have B0 := hid ((Below.refl w.heap.size w).alloc lR (.cells #[.string x.name, .int .i64 x.epoch, .string x.ver, .string x.rel, .int .u8 x.arch, .string x.vendor, .slice x.provA x.prov.length x.provC, .slice x.reqA x.req.length x.reqC, .slice x.conA x.con.length x.conC, .slice x.obsA x.obs.length x.obsC, .slice x.rcmA x.rcm.length x.rcmC, .slice x.supA x.sup.length x.supC, .slice x.sugA x.sug.length x.sugC, .slice x.enhA x.enh.length x.enhC, .slice x.filesA x.files.length x.filesC] 28));obtain ⟨rk, hrk⟩ : ∃ rk, rk = St.comesK I0 (nmQ L) (obQ L) (cmpQ L) S n := ⟨_, rfl⟩;rw [<- hrk];have RK := hid hrk;have hI1 : I0 <= 1000000 := by omega
 generalize S.length = ns at *;clear hp hS hN hSl hx hrk hI;unfold Pk.val
 go_enter Tryz.func90, Tryz.ntmps90
 go_wp2_with fail
 generalize w.alloc (.cells #[.string x.name, .int .i64 x.epoch, .string x.ver, .string x.rel, .int .u8 x.arch, .string x.vendor, .slice x.provA x.prov.length x.provC, .slice x.reqA x.req.length x.reqC, .slice x.conA x.con.length x.conC, .slice x.obsA x.obs.length x.obsC, .slice x.rcmA x.rcm.length x.rcmC, .slice x.supA x.sup.length x.supC, .slice x.sugA x.sug.length x.sugC, .slice x.enhA x.enh.length x.enhC, .slice x.filesA x.files.length x.filesC] 28) = V at *
 go_loopw [9, 10, 11] (fun bv ov iv wr => ∃ (i : Nat) (bo : Option Nat), i <= I0 /\ iv = .int .i64 (i : Int) /\ bv = .int .i64 (qHV bo) /\ ov = .bool ((St.chgs I0 S 0 i).any (obQ L n)) /\ Hid (bo = St.bestOf (nmQ L) (cmpQ L) n (St.chgs I0 S 0 i) none /\ ∀ j, bo = some j -> j < I0) /\ PkAt wr w.heap.size x /\ Below w.heap.size w wr) (fun _ _ iv _ => I0 - (intOf iv).toNat)
 case atStart => exact ⟨0, none, Nat.zero_le _, rfl, rfl, by rw [qCS]; rfl, hid ⟨by rw [qCS]; rfl, by intro j h; cases h⟩, P0.out, B0.out⟩
 case round =>
  obtain ⟨i, bo, hi, rfl, rfl, rfl, HB0, hP, hB⟩ := hrel;rename World => wr
  have PA := hid hP;have HB := hid hB;have RW := hid (RP.out.then hB);obtain ⟨A, c, c0, hR⟩ := RW.out.at_.c0;have c1 := RW.out.at_.c1;have QL := hid RW.out.at_.lt;have HR := hid hR;obtain ⟨ov, hov⟩ : ∃ ov, ov = (St.chgs I0 S 0 i).any (obQ L n) := ⟨_, rfl⟩;have HOV := hid hov;rw [<- hov];clear hov hP hB hR;by_cases hlt : i < I0
  ·have j1 : (i : Int) < (I0 : Int) := by omega
   have HA := hid (HAS.out (i : Int) wr HB.out);have HCS := hid (qDF (S := S) i);have HCG := hid (show St.chg I0 S i = !(S.contains (i : Int)) from by unfold St.chg; rw [<- HCS.out, decide_eq_true hlt]; cases S.contains (i : Int) <;> rfl);have HST := hid (show St.chgs I0 S 0 (i + 1) = St.chgs I0 S 0 i ++ (if St.chg I0 S i then [i] else []) from qLO);have hil : i < L.length := by have := HIN.out; have := HNN.out; omega
   have OBI := hid (fun W (hb : Below w.heap.size w W) => OBA.out i hlt W hb);have HLT := hid hlt;obtain ⟨N, hN9⟩ : ∃ N, N = L.length := ⟨_, rfl⟩;rw [<- hN9] at c0;have HN9 := hid hN9;obtain ⟨b, o, hA9, hb9, _⟩ := HR.out.cells hil;rw [hA9] at c0;have CX := hid (fun (k : Nat) (hk : k < L.length) W (hb : Below wr.heap.size wr W) => show ∀ m u, (L[k].cells)[m]? = some u -> W.cell? ⟨b, o + k * 15 + m, none⟩ = some u from by
    obtain ⟨b', o', e, _, hc⟩ := (HR.out.below hb).cells hk;rw [hA9] at e;cases e
    exact hc)
   have C0 := hid c0;clear hA9 hb9 hN9;cases hin : S.contains (i : Int)
   ·rw [hin] at HA HCG;have HST := hid (show St.chgs I0 S 0 (i + 1) = St.chgs I0 S 0 i ++ [i] from by rw [HST.out, HCG.out]; rfl);have HBN := hid (show St.bestOf (nmQ L) (cmpQ L) n (St.chgs I0 S 0 (i + 1)) none = St.bestStep (nmQ L) (cmpQ L) n bo i from by rw [HST.out, HB0.out.1]; unfold St.bestOf; rw [List.foldl_append]; rfl);have HON := hid (show (St.chgs I0 S 0 (i + 1)).any (obQ L n) = (ov || obQ L n i) from by rw [HST.out, List.any_append, HOV.out]; simp);clear hin;go_wp2_with fail
    go_at_call 89
    refine HA.out.mono ?_;rintro e wq ⟨rfl, rfl⟩;go_wp2_with fail
    clear c0 c1 j1;have YC := hid (fun W (hb : Below wr.heap.size wr W) => show W.cell? ⟨b, o + i * 15, none⟩ = some (.string L[i].name) /\ W.cell? ⟨b, o + i * 15 + 1, none⟩ = some (.int .i64 L[i].epoch) /\ W.cell? ⟨b, o + i * 15 + 2, none⟩ = some (.string L[i].ver) /\ W.cell? ⟨b, o + i * 15 + 3, none⟩ = some (.string L[i].rel) from ⟨CX.out i hil W hb 0 _ rfl, CX.out i hil W hb 1 _ rfl, CX.out i hil W hb 2 _ rfl, CX.out i hil W hb 3 _ rfl⟩);have XC := hid (fun W (hb : Below wr.heap.size wr W) => show W.cell? ⟨w.heap.size, 0, none⟩ = some (.string x.name) /\ True from ⟨(PA.out.calls hb).2.1, trivial⟩);have IK := hid (show (0 : Int) <= (i : Int) /\ (i : Int) < (N : Int) by have := HN9.out; omega);have HNM := hid (show nmQ L i n = decide (L[i].name = x.name) from by unfold nmQ; rw [List.getElem?_eq_getElem hil, List.getElem?_eq_getElem HNN.out, <- HX.out]);have EY := hid (qCO (RP.out.may _ (List.getElem_mem hil)));obtain ⟨j, hj9, hjj⟩ : ∃ j, j < L.length /\ ∀ k, bo = some k -> k = j := by
     cases bo with
     | none => exact ⟨i, hil, fun k h => by cases h⟩
     | some k => exact ⟨k, by have := HB0.out.2 k rfl; have := HIN.out; have := HNN.out; omega, fun k' h => by cases h; rfl⟩
    have ZC := hid (fun W (hb : Below wr.heap.size wr W) => show W.cell? ⟨b, o + j * 15, none⟩ = some (.string L[j].name) /\ W.cell? ⟨b, o + j * 15 + 1, none⟩ = some (.int .i64 L[j].epoch) /\ W.cell? ⟨b, o + j * 15 + 2, none⟩ = some (.string L[j].ver) /\ W.cell? ⟨b, o + j * 15 + 3, none⟩ = some (.string L[j].rel) from ⟨CX.out j hj9 W hb 0 _ rfl, CX.out j hj9 W hb 1 _ rfl, CX.out j hj9 W hb 2 _ rfl, CX.out j hj9 W hb 3 _ rfl⟩);have EZ := hid (qCO (RP.out.may _ (List.getElem_mem hj9)));have HCM := hid (show cmpQ L i j = ecmp L[i].evr L[j].evr from by unfold cmpQ; rw [List.getElem?_eq_getElem hil, List.getElem?_eq_getElem hj9]);have CM := hid (fun W => qTL L[i] L[j] W EY.out EZ.out);obtain ⟨d, hd⟩ : ∃ d, d = cmpQ L i j := ⟨_, rfl⟩;rw [<- HCM.out, <- hd] at CM;have HD := hid hd;clear HCM EY EZ hd;have HJN := hid (show j < N by have := HN9.out; omega);generalize L[j] = z at *;generalize L[i] = y at *;obtain ⟨m, hm⟩ : ∃ m, m = decide (0 < d) := ⟨_, rfl⟩;have MM := hid hm.symm;clear hm;obtain ⟨nm, hnm⟩ : ∃ nm, nm = decide (y.name = x.name) := ⟨_, rfl⟩;have Q1 := hid (show (y.name.toList == x.name.toList) = nm from by rw [hnm, Bool.eq_iff_iff]; simp; exact ⟨qBD, fun h => by rw [h]⟩);rw [<- hnm] at HNM;clear hnm;have RES := hid (show St.bestStep (nmQ L) (cmpQ L) n bo i = if nm && (bo.isNone || m) then some i else bo from by
     unfold St.bestStep;rw [HNM.out]
     cases bo with
     | none => rfl
     | some k => rw [<- hjj k rfl] at HD; rw [<- MM.out, HD.out]; rfl)
    have BJ := hid (show bo.isNone = false -> qHV bo = (j : Int) from fun h => by
     cases bo with
     | none => cases h
     | some k => rw [<- hjj k rfl]; rfl)
    have NBI := hid (show decide (qHV bo < 0) = bo.isNone from by
     cases bo with
     | none => rfl
     | some k => exact decide_eq_false (show ¬ (k : Int) < 0 by omega))
    clear hj9 hil hjj;obtain ⟨nb, hnb⟩ : ∃ nb, nb = bo.isNone := ⟨_, rfl⟩;rw [<- hnb] at RES BJ NBI;clear hnb;obtain ⟨bi, hbi⟩ : ∃ bi, bi = qHV bo := ⟨_, rfl⟩;rw [<- hbi] at BJ NBI |-;have HBI := hid hbi;have NB := hid NBI.out;clear hbi NBI;have IJ := hid (show nb = false -> True /\ bi = (j : Int) from fun h => ⟨trivial, BJ.out h⟩);have IK2 := hid (show (0 : Int) <= (j : Int) /\ (j : Int) < (N : Int) by have := HJN.out; omega);obtain ⟨r9, hr9⟩ : ∃ r9, r9 = (nm && (nb || m)) := ⟨_, rfl⟩;have RES := hid (show St.bestStep (nmQ L) (cmpQ L) n bo i = if r9 then some i else bo from by rw [hr9]; exact RES.out);have R9 := hid hr9;clear hr9 BJ;rcases Bool.eq_false_or_eq_true nm with hnm | hnm
    all_goals rcases Bool.eq_false_or_eq_true nb with hnb | hnb
    all_goals
     refine qAE (PP := qAM Q b o N c w.heap.size i j bi d y x z nm nb m) 35 rfl (by kernel_rfl) (by kernel_rfl) (by decide) (by decide) (qNN Q b o N c w.heap.size i j bi d y x z nm nb m) (fun ii => match ii with | 0 => u24 | 1 => u25 | 2 => u26 | 3 => u27 | 4 => u28 | 5 => u29 | 6 => u30 | 7 => u31 | 8 => u32 | 9 => u33 | 10 => u34 | 11 => u35 | 12 => u36 | 13 => u37 | 14 => u38 | 15 => u39 | 16 => u40 | 17 => u41 | 18 => u42 | 19 => u43 | 20 => u44 | 21 => u45 | 22 => u46 | 23 => u47 | 24 => u48 | 25 => u49 | 26 => u50 | 27 => u51 | 28 => u52 | 29 => u53 | 30 => u54 | 31 => u55 | 32 => u56 | 33 => u57 | 34 => u58 | _ => undef) (by simp [qA2, gQ]) ?_ ?_
     ·intro i_ o_ vs W hi_ ho_ he hBW K hK;simp only [gT, qA2, gQ] at hK |-;have HBX := hid hBW;have C0W := hid ((hBW.cell (p := ⟨Q, 0, none⟩) QL.out).trans C0.out);have YW := hid (YC.out W hBW);have ZW := hid (ZC.out W hBW);have XW := hid (XC.out W hBW);obtain rfl | rfl | rfl | rfl | rfl | rfl | rfl | rfl | rfl | rfl | rfl | rfl | rfl | rfl | rfl | rfl | rfl | rfl | rfl | rfl | rfl | rfl | rfl | rfl | rfl | rfl | rfl | rfl | rfl | rfl | rfl | rfl | rfl | rfl | rfl := (show i_ = 0 \/ i_ = 1 \/ i_ = 2 \/ i_ = 3 \/ i_ = 4 \/ i_ = 5 \/ i_ = 6 \/ i_ = 7 \/ i_ = 8 \/ i_ = 9 \/ i_ = 10 \/ i_ = 11 \/ i_ = 12 \/ i_ = 13 \/ i_ = 14 \/ i_ = 15 \/ i_ = 16 \/ i_ = 17 \/ i_ = 18 \/ i_ = 19 \/ i_ = 20 \/ i_ = 21 \/ i_ = 22 \/ i_ = 23 \/ i_ = 24 \/ i_ = 25 \/ i_ = 26 \/ i_ = 27 \/ i_ = 28 \/ i_ = 29 \/ i_ = 30 \/ i_ = 31 \/ i_ = 32 \/ i_ = 33 \/ i_ = 34 by exact (by have : i_ < 35 := hi_; omega)) <;> simp only [gE] at ho_ <;> subst ho_
      ·refine qA9 rfl ?_;simp only [gQ] at hK;have HK := hid hK;clear hK he hi_ hBW;go_simp;exact HK.out _ _ (by first | rfl | simp [qAM, hnm, hnb]) bR
      ·have e0_ : vs 0 = _ := he ⟨0, .data⟩ (by simp) rfl;rw [e0_] at hK |-;refine qA9 rfl ?_;simp only [gQ] at hK;have HK := hid hK;clear hK he hi_ hBW;go_simp;exact HK.out _ _ (by first | rfl | simp [qAM, hnm, hnb]) bR
      ·have e1_ : vs 1 = _ := he ⟨1, .data⟩ (by simp) rfl;rw [e1_] at hK |-;refine qA9 rfl ?_;simp only [gQ] at hK;have HK := hid hK;clear hK he hi_ hBW;go_simp;exact HK.out _ _ (by first | rfl | simp [qAM, hnm, hnb]) bR
      ·have e2_ : vs 2 = _ := he ⟨2, .data⟩ (by simp) rfl;rw [e2_] at hK |-;refine qA9 rfl ?_;simp only [gQ] at hK;have HK := hid hK;clear hK he hi_ hBW;have cc0 := C0W.out;go_simp;exact HK.out _ _ (by first | rfl | simp [qAM, hnm, hnb]) bR
      ·refine qA9 rfl ?_;simp only [gQ] at hK;have HK := hid hK;clear hK he hi_ hBW;go_simp;exact HK.out _ _ (by first | rfl | simp [qAM, hnm, hnb]) bR
      ·have e3_ : vs 3 = _ := he ⟨3, .data⟩ (by simp) rfl;rw [e3_] at hK |-;have e4_ : vs 4 = _ := he ⟨4, .data⟩ (by simp) rfl;rw [e4_] at hK |-;refine qA9 rfl ?_;simp only [gQ] at hK;have HK := hid hK;clear hK he hi_ hBW;have i0 := IK.out.1;have i1 := IK.out.2;go_simp;exact HK.out _ _ (by simp [qAM, hnm, hnb]) bR
      ·have e5_ : vs 5 = _ := he ⟨5, .data⟩ (by simp) rfl;rw [e5_] at hK |-;refine qA9 rfl ?_;simp only [gQ] at hK;have HK := hid hK;clear hK he hi_ hBW;go_simp;exact HK.out _ _ (by first | rfl | simp [qAM, hnm, hnb]) bR
      ·have e6_ : vs 6 = _ := he ⟨6, .data⟩ (by simp) rfl;rw [e6_] at hK |-;refine qA9 rfl ?_;simp only [gQ] at hK;have HK := hid hK;clear hK he hi_ hBW;have cc0 := YW.out.1;go_simp;exact HK.out _ _ (by first | rfl | simp [qAM, hnm, hnb]) bR
      ·refine qA9 rfl ?_;simp only [gQ] at hK;have HK := hid hK;clear hK he hi_ hBW;go_simp;exact HK.out _ _ (by first | rfl | simp [qAM, hnm, hnb]) bR
      ·have e8_ : vs 8 = _ := he ⟨8, .data⟩ (by simp) rfl;rw [e8_] at hK |-;refine qA9 rfl ?_;simp only [gQ] at hK;have HK := hid hK;clear hK he hi_ hBW;have cc0 := XW.out.1;go_simp;exact HK.out _ _ (by first | rfl | simp [qAM, hnm, hnb]) bR
      ·have e7_ : vs 7 = _ := he ⟨7, .data⟩ (by simp) rfl;rw [e7_] at hK |-;have e9_ : vs 9 = _ := he ⟨9, .data⟩ (by simp) rfl;rw [e9_] at hK |-;refine qA9 rfl ?_;simp only [gQ] at hK;have HK := hid hK;clear hK he hi_ hBW;have q1 := Q1.out;go_simp;exact HK.out _ _ (by simp [qAM, q1, hnm]) bR
      ·have e10_ : vs 10 = _ := he ⟨10, .data⟩ (by simp) rfl
       try simp only [hnm, hnb, cond_true, cond_false, Bool.true_and, Bool.false_and, Bool.and_true, Bool.and_false, Bool.not_true, Bool.not_false, Bool.true_or, Bool.false_or, Bool.or_true, Bool.or_false] at e10_
       rw [e10_] at hK |-;refine qA9 rfl ?_;simp only [gQ] at hK;have HK := hid hK;clear hK he hi_ hBW;go_simp;exact HK.out _ _ (by first | rfl | simp [qAM, hnm, hnb]) bR
      ·have e11_ : vs 11 = _ := he ⟨11, .guard⟩ (by simp) rfl
       try simp only [hnm, hnb, cond_true, cond_false, Bool.true_and, Bool.false_and, Bool.and_true, Bool.and_false, Bool.not_true, Bool.not_false, Bool.true_or, Bool.false_or, Bool.or_true, Bool.or_false] at e11_
       rw [e11_] at hK |-
       first
        | (refine qA9 rfl ?_; simp only [gQ] at hK; have HK := hid hK; clear hK he hi_ hBW; go_simp; exact HK.out _ _ (by first | rfl | simp [qAM, hnm, hnb]) bR)
        | (refine qAU Bool.false_ne_true ?_; exact hK _ _ (by simp [qAM, hnm, hnb]) bR)
      ·have e12_ : vs 12 = _ := he ⟨12, .data⟩ (by simp) rfl
       try simp only [hnm, hnb, cond_true, cond_false, Bool.true_and, Bool.false_and, Bool.and_true, Bool.and_false, Bool.not_true, Bool.not_false, Bool.true_or, Bool.false_or, Bool.or_true, Bool.or_false] at e12_
       rw [e12_] at hK |-;have e11_ : vs 11 = _ := he ⟨11, .guard⟩ (by simp) rfl
       try simp only [hnm, hnb, cond_true, cond_false, Bool.true_and, Bool.false_and, Bool.and_true, Bool.and_false, Bool.not_true, Bool.not_false, Bool.true_or, Bool.false_or, Bool.or_true, Bool.or_false] at e11_
       rw [e11_] at hK |-
       first
        | (refine qA9 rfl ?_; simp only [gQ] at hK; have HK := hid hK; clear hK he hi_ hBW; have q3 := NB.out; go_simp; exact HK.out _ _ (by simp [qAM, q3, hnm, hnb]) bR)
        | (refine qAU Bool.false_ne_true ?_; exact hK _ _ (by simp [qAM, hnm, hnb]) bR)
      ·have e13_ : vs 13 = _ := he ⟨13, .data⟩ (by simp) rfl
       try simp only [hnm, hnb, cond_true, cond_false, Bool.true_and, Bool.false_and, Bool.and_true, Bool.and_false, Bool.not_true, Bool.not_false, Bool.true_or, Bool.false_or, Bool.or_true, Bool.or_false] at e13_
       rw [e13_] at hK |-;have e11_ : vs 11 = _ := he ⟨11, .guard⟩ (by simp) rfl
       try simp only [hnm, hnb, cond_true, cond_false, Bool.true_and, Bool.false_and, Bool.and_true, Bool.and_false, Bool.not_true, Bool.not_false, Bool.true_or, Bool.false_or, Bool.or_true, Bool.or_false] at e11_
       rw [e11_] at hK |-
       first
        | (refine qA9 rfl ?_; simp only [gQ] at hK; have HK := hid hK; clear hK he hi_ hBW; go_simp; exact HK.out _ _ (by first | rfl | simp [qAM, hnm, hnb]) bR)
        | (refine qAU Bool.false_ne_true ?_; exact hK _ _ (by simp [qAM, hnm, hnb]) bR)
      ·have e14_ : vs 14 = _ := he ⟨14, .guard⟩ (by simp) rfl
       try simp only [hnm, hnb, cond_true, cond_false, Bool.true_and, Bool.false_and, Bool.and_true, Bool.and_false, Bool.not_true, Bool.not_false, Bool.true_or, Bool.false_or, Bool.or_true, Bool.or_false] at e14_
       rw [e14_] at hK |-
       first
        | (refine qA9 rfl ?_; simp only [gQ] at hK; have HK := hid hK; clear hK he hi_ hBW; go_simp; exact HK.out _ _ (by first | rfl | simp [qAM, hnm, hnb]) bR)
        | (refine qAU Bool.false_ne_true ?_; exact hK _ _ (by simp [qAM, hnm, hnb]) bR)
      ·have e15_ : vs 15 = _ := he ⟨15, .data⟩ (by simp) rfl
       try simp only [hnm, hnb, cond_true, cond_false, Bool.true_and, Bool.false_and, Bool.and_true, Bool.and_false, Bool.not_true, Bool.not_false, Bool.true_or, Bool.false_or, Bool.or_true, Bool.or_false] at e15_
       rw [e15_] at hK |-;have e14_ : vs 14 = _ := he ⟨14, .guard⟩ (by simp) rfl
       try simp only [hnm, hnb, cond_true, cond_false, Bool.true_and, Bool.false_and, Bool.and_true, Bool.and_false, Bool.not_true, Bool.not_false, Bool.true_or, Bool.false_or, Bool.or_true, Bool.or_false] at e14_
       rw [e14_] at hK |-
       first
        | (refine qA9 rfl ?_; simp only [gQ] at hK; have HK := hid hK; clear hK he hi_ hBW; go_simp; exact HK.out _ _ (by first | rfl | simp [qAM, hnm, hnb]) bR)
        | (refine qAU Bool.false_ne_true ?_; exact hK _ _ (by simp [qAM, hnm, hnb]) bR)
      ·have e16_ : vs 16 = _ := he ⟨16, .data⟩ (by simp) rfl
       try simp only [hnm, hnb, cond_true, cond_false, Bool.true_and, Bool.false_and, Bool.and_true, Bool.and_false, Bool.not_true, Bool.not_false, Bool.true_or, Bool.false_or, Bool.or_true, Bool.or_false] at e16_
       rw [e16_] at hK |-;have e14_ : vs 14 = _ := he ⟨14, .guard⟩ (by simp) rfl
       try simp only [hnm, hnb, cond_true, cond_false, Bool.true_and, Bool.false_and, Bool.and_true, Bool.and_false, Bool.not_true, Bool.not_false, Bool.true_or, Bool.false_or, Bool.or_true, Bool.or_false] at e14_
       rw [e14_] at hK |-
       first
        | (refine qA9 rfl ?_; simp only [gQ] at hK; have HK := hid hK; clear hK he hi_ hBW; go_simp; exact HK.out _ _ (by first | rfl | simp [qAM, hnm, hnb]) bR)
        | (refine qAU Bool.false_ne_true ?_; exact hK _ _ (by simp [qAM, hnm, hnb]) bR)
      ·have e17_ : vs 17 = _ := he ⟨17, .data⟩ (by simp) rfl
       try simp only [hnm, hnb, cond_true, cond_false, Bool.true_and, Bool.false_and, Bool.and_true, Bool.and_false, Bool.not_true, Bool.not_false, Bool.true_or, Bool.false_or, Bool.or_true, Bool.or_false] at e17_
       rw [e17_] at hK |-;have e14_ : vs 14 = _ := he ⟨14, .guard⟩ (by simp) rfl
       try simp only [hnm, hnb, cond_true, cond_false, Bool.true_and, Bool.false_and, Bool.and_true, Bool.and_false, Bool.not_true, Bool.not_false, Bool.true_or, Bool.false_or, Bool.or_true, Bool.or_false] at e14_
       rw [e14_] at hK |-
       first
        | (refine qA9 rfl ?_; simp only [gQ] at hK; have HK := hid hK; clear hK he hi_ hBW; have cc0 := C0W.out; go_simp; exact HK.out _ _ (by first | rfl | simp [qAM, hnm, hnb]) bR)
        | (refine qAU Bool.false_ne_true ?_; exact hK _ _ (by simp [qAM, hnm, hnb]) bR)
      ·have e14_ : vs 14 = _ := he ⟨14, .guard⟩ (by simp) rfl
       try simp only [hnm, hnb, cond_true, cond_false, Bool.true_and, Bool.false_and, Bool.and_true, Bool.and_false, Bool.not_true, Bool.not_false, Bool.true_or, Bool.false_or, Bool.or_true, Bool.or_false] at e14_
       rw [e14_] at hK |-
       first
        | (refine qA9 rfl ?_; simp only [gQ] at hK; have HK := hid hK; clear hK he hi_ hBW; go_simp; exact HK.out _ _ (by first | rfl | simp [qAM, hnm, hnb]) bR)
        | (refine qAU Bool.false_ne_true ?_; exact hK _ _ (by simp [qAM, hnm, hnb]) bR)
      ·have e18_ : vs 18 = _ := he ⟨18, .data⟩ (by simp) rfl
       try simp only [hnm, hnb, cond_true, cond_false, Bool.true_and, Bool.false_and, Bool.and_true, Bool.and_false, Bool.not_true, Bool.not_false, Bool.true_or, Bool.false_or, Bool.or_true, Bool.or_false] at e18_
       rw [e18_] at hK |-;have e19_ : vs 19 = _ := he ⟨19, .data⟩ (by simp) rfl
       try simp only [hnm, hnb, cond_true, cond_false, Bool.true_and, Bool.false_and, Bool.and_true, Bool.and_false, Bool.not_true, Bool.not_false, Bool.true_or, Bool.false_or, Bool.or_true, Bool.or_false] at e19_
       rw [e19_] at hK |-;have e14_ : vs 14 = _ := he ⟨14, .guard⟩ (by simp) rfl
       try simp only [hnm, hnb, cond_true, cond_false, Bool.true_and, Bool.false_and, Bool.and_true, Bool.and_false, Bool.not_true, Bool.not_false, Bool.true_or, Bool.false_or, Bool.or_true, Bool.or_false] at e14_
       rw [e14_] at hK |-
       first
        | (refine qA9 rfl ?_; simp only [gQ] at hK; have HK := hid hK; clear hK he hi_ hBW; have i0 := IK.out.1; have i1 := IK.out.2; go_simp; exact HK.out _ _ (by simp [qAM, hnm, hnb]) bR)
        | (refine qAU Bool.false_ne_true ?_; exact hK _ _ (by simp [qAM, hnm, hnb]) bR)
      ·have e20_ : vs 20 = _ := he ⟨20, .data⟩ (by simp) rfl
       try simp only [hnm, hnb, cond_true, cond_false, Bool.true_and, Bool.false_and, Bool.and_true, Bool.and_false, Bool.not_true, Bool.not_false, Bool.true_or, Bool.false_or, Bool.or_true, Bool.or_false] at e20_
       rw [e20_] at hK |-;have e14_ : vs 14 = _ := he ⟨14, .guard⟩ (by simp) rfl
       try simp only [hnm, hnb, cond_true, cond_false, Bool.true_and, Bool.false_and, Bool.and_true, Bool.and_false, Bool.not_true, Bool.not_false, Bool.true_or, Bool.false_or, Bool.or_true, Bool.or_false] at e14_
       rw [e14_] at hK |-
       first
        | (refine qA9 rfl ?_; simp only [gQ] at hK; have HK := hid hK; clear hK he hi_ hBW; go_simp; exact HK.out _ _ (by first | rfl | simp [qAM, hnm, hnb]) bR)
        | (refine qAU Bool.false_ne_true ?_; exact hK _ _ (by simp [qAM, hnm, hnb]) bR)
      ·have e21_ : vs 21 = _ := he ⟨21, .data⟩ (by simp) rfl
       try simp only [hnm, hnb, cond_true, cond_false, Bool.true_and, Bool.false_and, Bool.and_true, Bool.and_false, Bool.not_true, Bool.not_false, Bool.true_or, Bool.false_or, Bool.or_true, Bool.or_false] at e21_
       rw [e21_] at hK |-;have e14_ : vs 14 = _ := he ⟨14, .guard⟩ (by simp) rfl
       try simp only [hnm, hnb, cond_true, cond_false, Bool.true_and, Bool.false_and, Bool.and_true, Bool.and_false, Bool.not_true, Bool.not_false, Bool.true_or, Bool.false_or, Bool.or_true, Bool.or_false] at e14_
       rw [e14_] at hK |-
       first
        | (refine qA9 rfl ?_; simp only [gQ] at hK; have HK := hid hK; clear hK he hi_ hBW; have cc0 := YW.out.2.1; have cc1 := YW.out.2.2.1; have cc2 := YW.out.2.2.2; go_simp; exact HK.out _ _ (by first | rfl | simp [qAM, hnm, hnb]) bR)
        | (refine qAU Bool.false_ne_true ?_; exact hK _ _ (by simp [qAM, hnm, hnb]) bR)
      ·have e14_ : vs 14 = _ := he ⟨14, .guard⟩ (by simp) rfl
       try simp only [hnm, hnb, cond_true, cond_false, Bool.true_and, Bool.false_and, Bool.and_true, Bool.and_false, Bool.not_true, Bool.not_false, Bool.true_or, Bool.false_or, Bool.or_true, Bool.or_false] at e14_
       rw [e14_] at hK |-
       first
        | (refine qA9 rfl ?_; simp only [gQ] at hK; have HK := hid hK; clear hK he hi_ hBW; go_simp; exact HK.out _ _ (by first | rfl | simp [qAM, hnm, hnb]) bR)
        | (refine qAU Bool.false_ne_true ?_; exact hK _ _ (by simp [qAM, hnm, hnb]) bR)
      ·have e23_ : vs 23 = _ := he ⟨23, .data⟩ (by simp) rfl
       try simp only [hnm, hnb, cond_true, cond_false, Bool.true_and, Bool.false_and, Bool.and_true, Bool.and_false, Bool.not_true, Bool.not_false, Bool.true_or, Bool.false_or, Bool.or_true, Bool.or_false] at e23_
       rw [e23_] at hK |-;have e14_ : vs 14 = _ := he ⟨14, .guard⟩ (by simp) rfl
       try simp only [hnm, hnb, cond_true, cond_false, Bool.true_and, Bool.false_and, Bool.and_true, Bool.and_false, Bool.not_true, Bool.not_false, Bool.true_or, Bool.false_or, Bool.or_true, Bool.or_false] at e14_
       rw [e14_] at hK |-
       first
        | (refine qA9 rfl ?_; simp only [gQ] at hK; have HK := hid hK; clear hK he hi_ hBW; go_simp; exact HK.out _ _ (by first | rfl | simp [qAM, hnm, hnb]) bR)
        | (refine qAU Bool.false_ne_true ?_; exact hK _ _ (by simp [qAM, hnm, hnb]) bR)
      ·have e24_ : vs 24 = _ := he ⟨24, .data⟩ (by simp) rfl
       try simp only [hnm, hnb, cond_true, cond_false, Bool.true_and, Bool.false_and, Bool.and_true, Bool.and_false, Bool.not_true, Bool.not_false, Bool.true_or, Bool.false_or, Bool.or_true, Bool.or_false] at e24_
       rw [e24_] at hK |-;have e14_ : vs 14 = _ := he ⟨14, .guard⟩ (by simp) rfl
       try simp only [hnm, hnb, cond_true, cond_false, Bool.true_and, Bool.false_and, Bool.and_true, Bool.and_false, Bool.not_true, Bool.not_false, Bool.true_or, Bool.false_or, Bool.or_true, Bool.or_false] at e14_
       rw [e14_] at hK |-
       first
        | (refine qA9 rfl ?_; simp only [gQ] at hK; have HK := hid hK; clear hK he hi_ hBW; go_simp; exact HK.out _ _ (by first | rfl | simp [qAM, hnm, hnb]) bR)
        | (refine qAU Bool.false_ne_true ?_; exact hK _ _ (by simp [qAM, hnm, hnb]) bR)
      ·have e25_ : vs 25 = _ := he ⟨25, .data⟩ (by simp) rfl
       try simp only [hnm, hnb, cond_true, cond_false, Bool.true_and, Bool.false_and, Bool.and_true, Bool.and_false, Bool.not_true, Bool.not_false, Bool.true_or, Bool.false_or, Bool.or_true, Bool.or_false] at e25_
       rw [e25_] at hK |-;have e14_ : vs 14 = _ := he ⟨14, .guard⟩ (by simp) rfl
       try simp only [hnm, hnb, cond_true, cond_false, Bool.true_and, Bool.false_and, Bool.and_true, Bool.and_false, Bool.not_true, Bool.not_false, Bool.true_or, Bool.false_or, Bool.or_true, Bool.or_false] at e14_
       rw [e14_] at hK |-
       first
        | (refine qA9 rfl ?_; simp only [gQ] at hK; have HK := hid hK; clear hK he hi_ hBW; have cc0 := C0W.out; go_simp; exact HK.out _ _ (by first | rfl | simp [qAM, hnm, hnb]) bR)
        | (refine qAU Bool.false_ne_true ?_; exact hK _ _ (by simp [qAM, hnm, hnb]) bR)
      ·have e14_ : vs 14 = _ := he ⟨14, .guard⟩ (by simp) rfl
       try simp only [hnm, hnb, cond_true, cond_false, Bool.true_and, Bool.false_and, Bool.and_true, Bool.and_false, Bool.not_true, Bool.not_false, Bool.true_or, Bool.false_or, Bool.or_true, Bool.or_false] at e14_
       rw [e14_] at hK |-
       first
        | (refine qA9 rfl ?_; simp only [gQ] at hK; have HK := hid hK; clear hK he hi_ hBW; go_simp; exact HK.out _ _ (by first | rfl | simp [qAM, hnm, hnb]) bR)
        | (refine qAU Bool.false_ne_true ?_; exact hK _ _ (by simp [qAM, hnm, hnb]) bR)
      ·have e26_ : vs 26 = _ := he ⟨26, .data⟩ (by simp) rfl
       try simp only [hnm, hnb, cond_true, cond_false, Bool.true_and, Bool.false_and, Bool.and_true, Bool.and_false, Bool.not_true, Bool.not_false, Bool.true_or, Bool.false_or, Bool.or_true, Bool.or_false] at e26_
       rw [e26_] at hK |-;have e27_ : vs 27 = _ := he ⟨27, .data⟩ (by simp) rfl
       try simp only [hnm, hnb, cond_true, cond_false, Bool.true_and, Bool.false_and, Bool.and_true, Bool.and_false, Bool.not_true, Bool.not_false, Bool.true_or, Bool.false_or, Bool.or_true, Bool.or_false] at e27_
       rw [e27_] at hK |-;have e14_ : vs 14 = _ := he ⟨14, .guard⟩ (by simp) rfl
       try simp only [hnm, hnb, cond_true, cond_false, Bool.true_and, Bool.false_and, Bool.and_true, Bool.and_false, Bool.not_true, Bool.not_false, Bool.true_or, Bool.false_or, Bool.or_true, Bool.or_false] at e14_
       rw [e14_] at hK |-
       first
        | (have ib := IJ.out hnb; rw [ib.2] at hK |-; refine qA9 rfl ?_; simp only [gQ] at hK; have HK := hid hK; clear hK he hi_ hBW; have i0 := IK2.out.1; have i1 := IK2.out.2; go_simp; exact HK.out _ _ (by simp [qAM, hnm, hnb]) bR)
        | (refine qAU Bool.false_ne_true ?_; exact hK _ _ (by simp [qAM, hnm, hnb]) bR)
      ·have e28_ : vs 28 = _ := he ⟨28, .data⟩ (by simp) rfl
       try simp only [hnm, hnb, cond_true, cond_false, Bool.true_and, Bool.false_and, Bool.and_true, Bool.and_false, Bool.not_true, Bool.not_false, Bool.true_or, Bool.false_or, Bool.or_true, Bool.or_false] at e28_
       rw [e28_] at hK |-;have e14_ : vs 14 = _ := he ⟨14, .guard⟩ (by simp) rfl
       try simp only [hnm, hnb, cond_true, cond_false, Bool.true_and, Bool.false_and, Bool.and_true, Bool.and_false, Bool.not_true, Bool.not_false, Bool.true_or, Bool.false_or, Bool.or_true, Bool.or_false] at e14_
       rw [e14_] at hK |-
       first
        | (refine qA9 rfl ?_; simp only [gQ] at hK; have HK := hid hK; clear hK he hi_ hBW; go_simp; exact HK.out _ _ (by first | rfl | simp [qAM, hnm, hnb]) bR)
        | (refine qAU Bool.false_ne_true ?_; exact hK _ _ (by simp [qAM, hnm, hnb]) bR)
      ·have e29_ : vs 29 = _ := he ⟨29, .data⟩ (by simp) rfl
       try simp only [hnm, hnb, cond_true, cond_false, Bool.true_and, Bool.false_and, Bool.and_true, Bool.and_false, Bool.not_true, Bool.not_false, Bool.true_or, Bool.false_or, Bool.or_true, Bool.or_false] at e29_
       rw [e29_] at hK |-;have e14_ : vs 14 = _ := he ⟨14, .guard⟩ (by simp) rfl
       try simp only [hnm, hnb, cond_true, cond_false, Bool.true_and, Bool.false_and, Bool.and_true, Bool.and_false, Bool.not_true, Bool.not_false, Bool.true_or, Bool.false_or, Bool.or_true, Bool.or_false] at e14_
       rw [e14_] at hK |-
       first
        | (refine qA9 rfl ?_; simp only [gQ] at hK; have HK := hid hK; clear hK he hi_ hBW; have cc0 := ZW.out.2.1; have cc1 := ZW.out.2.2.1; have cc2 := ZW.out.2.2.2; go_simp; exact HK.out _ _ (by first | rfl | simp [qAM, hnm, hnb]) bR)
        | (refine qAU Bool.false_ne_true ?_; exact hK _ _ (by simp [qAM, hnm, hnb]) bR)
      ·have e22_ : vs 22 = _ := he ⟨22, .data⟩ (by simp) rfl
       try simp only [hnm, hnb, cond_true, cond_false, Bool.true_and, Bool.false_and, Bool.and_true, Bool.and_false, Bool.not_true, Bool.not_false, Bool.true_or, Bool.false_or, Bool.or_true, Bool.or_false] at e22_
       rw [e22_] at hK |-;have e30_ : vs 30 = _ := he ⟨30, .data⟩ (by simp) rfl
       try simp only [hnm, hnb, cond_true, cond_false, Bool.true_and, Bool.false_and, Bool.and_true, Bool.and_false, Bool.not_true, Bool.not_false, Bool.true_or, Bool.false_or, Bool.or_true, Bool.or_false] at e30_
       rw [e30_] at hK |-;have e14_ : vs 14 = _ := he ⟨14, .guard⟩ (by simp) rfl
       try simp only [hnm, hnb, cond_true, cond_false, Bool.true_and, Bool.false_and, Bool.and_true, Bool.and_false, Bool.not_true, Bool.not_false, Bool.true_or, Bool.false_or, Bool.or_true, Bool.or_false] at e14_
       rw [e14_] at hK |-
       first
        | (refine qA9 rfl ?_; simp only [gQ] at hK; have HK := hid hK; clear hK he hi_ hBW; go_simp; go_at_call 134; refine (CM.out W).mono ?_; rintro en w9 ⟨rfl, h⟩; go_simp; exact HK.out _ _ (by first | rfl | simp [qAM, hnm, hnb]) h)
        | (refine qAU Bool.false_ne_true ?_; exact hK _ _ (by simp [qAM, hnm, hnb]) bR)
      ·have e31_ : vs 31 = _ := he ⟨31, .data⟩ (by simp) rfl
       try simp only [hnm, hnb, cond_true, cond_false, Bool.true_and, Bool.false_and, Bool.and_true, Bool.and_false, Bool.not_true, Bool.not_false, Bool.true_or, Bool.false_or, Bool.or_true, Bool.or_false] at e31_
       rw [e31_] at hK |-;have e14_ : vs 14 = _ := he ⟨14, .guard⟩ (by simp) rfl
       try simp only [hnm, hnb, cond_true, cond_false, Bool.true_and, Bool.false_and, Bool.and_true, Bool.and_false, Bool.not_true, Bool.not_false, Bool.true_or, Bool.false_or, Bool.or_true, Bool.or_false] at e14_
       rw [e14_] at hK |-
       first
        | (refine qA9 rfl ?_; simp only [gQ] at hK; have HK := hid hK; clear hK he hi_ hBW; have q4 := MM.out; go_simp; exact HK.out _ _ (by simp [qAM, q4, hnm, hnb]) bR)
        | (refine qAU Bool.false_ne_true ?_; exact hK _ _ (by simp [qAM, hnm, hnb]) bR)
      ·have e14_ : vs 14 = _ := he ⟨14, .data⟩ (by simp) rfl
       try simp only [hnm, hnb, cond_true, cond_false, Bool.true_and, Bool.false_and, Bool.and_true, Bool.and_false, Bool.not_true, Bool.not_false, Bool.true_or, Bool.false_or, Bool.or_true, Bool.or_false] at e14_
       rw [e14_] at hK |-;have e32_ : vs 32 = _ := he ⟨32, .data⟩ (by simp) rfl
       try simp only [hnm, hnb, cond_true, cond_false, Bool.true_and, Bool.false_and, Bool.and_true, Bool.and_false, Bool.not_true, Bool.not_false, Bool.true_or, Bool.false_or, Bool.or_true, Bool.or_false] at e32_
       rw [e32_] at hK |-;have e11_ : vs 11 = _ := he ⟨11, .guard⟩ (by simp) rfl
       try simp only [hnm, hnb, cond_true, cond_false, Bool.true_and, Bool.false_and, Bool.and_true, Bool.and_false, Bool.not_true, Bool.not_false, Bool.true_or, Bool.false_or, Bool.or_true, Bool.or_false] at e11_
       rw [e11_] at hK |-
       first
        | (refine qA9 rfl ?_; simp only [gQ] at hK; have HK := hid hK; clear hK he hi_ hBW; go_simp; exact HK.out _ _ (by first | rfl | simp [qAM, hnm, hnb]) bR)
        | (refine qAU Bool.false_ne_true ?_; exact hK _ _ (by simp [qAM, hnm, hnb]) bR)
      ·have e11_ : vs 11 = _ := he ⟨11, .data⟩ (by simp) rfl
       try simp only [hnm, hnb, cond_true, cond_false, Bool.true_and, Bool.false_and, Bool.and_true, Bool.and_false, Bool.not_true, Bool.not_false, Bool.true_or, Bool.false_or, Bool.or_true, Bool.or_false] at e11_
       rw [e11_] at hK |-;have e33_ : vs 33 = _ := he ⟨33, .data⟩ (by simp) rfl
       try simp only [hnm, hnb, cond_true, cond_false, Bool.true_and, Bool.false_and, Bool.and_true, Bool.and_false, Bool.not_true, Bool.not_false, Bool.true_or, Bool.false_or, Bool.or_true, Bool.or_false] at e33_
       rw [e33_] at hK |-;refine qA9 rfl ?_;simp only [gQ] at hK;have HK := hid hK;clear hK he hi_ hBW;go_simp;exact HK.out _ _ (by first | rfl | simp [qAM, hnm, hnb]) bR
     ·intro vs W2 hall hBW;have e34 : vs 34 = .bool r9 := (hall 34 (by decide)).trans (by rw [R9.out]);simp only [gT, qA2, qA8, qA7, gP];rw [e34];generalize vs 0 = y0, vs 1 = y1, vs 2 = y2, vs 3 = y3, vs 4 = y4, vs 5 = y5, vs 6 = y6, vs 7 = y7, vs 8 = y8, vs 9 = y9, vs 10 = y10, vs 11 = y11, vs 12 = y12, vs 13 = y13, vs 14 = y14, vs 15 = y15, vs 16 = y16, vs 17 = y17, vs 18 = y18, vs 19 = y19, vs 20 = y20, vs 21 = y21, vs 22 = y22, vs 23 = y23, vs 24 = y24, vs 25 = y25, vs 26 = y26, vs 27 = y27, vs 28 = y28, vs 29 = y29, vs 30 = y30, vs 31 = y31, vs 32 = y32, vs 33 = y33;have BW2 := hid (HB.out.trans (hBW.mono HB.out.size));have PW2 := hid (PA.out.calls hBW);clear hall hBW e34 hnm hnb
      have NXB := hid (show (if r9 then some i else bo) = St.bestOf (nmQ L) (cmpQ L) n (St.chgs I0 S 0 (i + 1)) none /\ ∀ k, (if r9 then some i else bo) = some k -> k < I0 from ⟨by rw [HBN.out, RES.out], fun k hk => by
       cases r9
       ·exact HB0.out.2 k hk
       ·cases hk; exact HLT.out⟩)
      have BI2 := hid (show r9 = false -> qHV (if r9 then some i else bo) = bi from fun h => by rw [h, HBI.out]; rfl);have BI3 := hid (show r9 = true -> qHV (if r9 then some i else bo) = (i : Int) from fun h => by rw [h]; rfl);cases r9
      ·have BIE := hid (BI2.out rfl);clear BI2 BI3;obtain ⟨ob, hob⟩ : ∃ ob, ob = obQ L n i := ⟨_, rfl⟩;have HON2 := hid (show (St.chgs I0 S 0 (i + 1)).any (obQ L n) = (ov || ob) from by rw [HON.out, hob]);have OBI := hid (fun W (hb : Below w.heap.size w W) => show Calls Tryz.prog 91 #[.pointer (some ⟨Q, 0, none⟩), .int .i64 (n : Int), .int .i64 (i : Int)] W fun e w' => e = .returned (.bool ob) /\ Below W.heap.size W w' from hob ▸ OBI.out W hb);clear hob;cases ov
       ·go_wp2_with fail
        go_at_call 91
        refine (OBI.out W2 BW2.out).mono ?_;rintro e w5 ⟨rfl, h5⟩;have BW5 := hid (BW2.out.trans (h5.mono BW2.out.size));have PW5 := hid (PW2.out.calls h5);clear h5;go_wp2_with fail
        go_roundw
        case rel => exact ⟨i + 1, _, by have := HLT.out; omega, by go_num, by rw [BIE.out], by rw [HON2.out]; simp, NXB, PW5.out, BW5.out⟩
        case measure => have := HLT.out; simp [intOf]; omega
       ·go_wp2_with fail
        go_roundw
        case rel => exact ⟨i + 1, _, by have := HLT.out; omega, by go_num, by rw [BIE.out], by rw [HON2.out]; simp, NXB, PW2.out, BW2.out⟩
        case measure => have := HLT.out; simp [intOf]; omega
      ·have BIE := hid (BI3.out rfl);clear BI2 BI3;obtain ⟨ob, hob⟩ : ∃ ob, ob = obQ L n i := ⟨_, rfl⟩;have HON2 := hid (show (St.chgs I0 S 0 (i + 1)).any (obQ L n) = (ov || ob) from by rw [HON.out, hob]);have OBI := hid (fun W (hb : Below w.heap.size w W) => show Calls Tryz.prog 91 #[.pointer (some ⟨Q, 0, none⟩), .int .i64 (n : Int), .int .i64 (i : Int)] W fun e w' => e = .returned (.bool ob) /\ Below W.heap.size W w' from hob ▸ OBI.out W hb);clear hob;cases ov
       ·go_wp2_with fail
        go_at_call 91
        refine (OBI.out W2 BW2.out).mono ?_;rintro e w5 ⟨rfl, h5⟩;have BW5 := hid (BW2.out.trans (h5.mono BW2.out.size));have PW5 := hid (PW2.out.calls h5);clear h5;go_wp2_with fail
        go_roundw
        case rel => exact ⟨i + 1, _, by have := HLT.out; omega, by go_num, by rw [BIE.out], by rw [HON2.out]; simp, NXB, PW5.out, BW5.out⟩
        case measure => have := HLT.out; simp [intOf]; omega
       ·go_wp2_with fail
        go_roundw
        case rel => exact ⟨i + 1, _, by have := HLT.out; omega, by go_num, by rw [BIE.out], by rw [HON2.out]; simp, NXB, PW2.out, BW2.out⟩
        case measure => have := HLT.out; simp [intOf]; omega
   ·rw [hin] at HA HCG;have HST := hid (show St.chgs I0 S 0 (i + 1) = St.chgs I0 S 0 i from by rw [HST.out, HCG.out]; simp);clear hin;go_wp2_with fail
    go_at_call 89
    refine HA.out.mono ?_;rintro e wq ⟨rfl, rfl⟩;go_wp2_with fail
    go_roundw
    case rel => exact ⟨i + 1, bo, by omega, by go_num, rfl, by rw [HST.out, HOV.out], hid ⟨by rw [HST.out]; exact HB0.out.1, HB0.out.2⟩, PA.out, HB.out⟩
    case measure => simp [intOf]; omega
  ·obtain rfl : I0 = i := by omega
   have j1 : ¬ (I0 : Int) < (I0 : Int) := by omega
   have RK := hid (show rk = qW7 L n bo ov from by rw [RK.out, HOV.out, HB0.out.1]; rfl)
   cases bo with
   | none =>
    cases ov
    ·obtain rfl : rk = 1 := RK.out;rw [show qHV none = -1 from rfl];go_wp2_with fail
     go_ret;exact ⟨rfl, HB.out⟩
    ·obtain rfl : rk = 5 := RK.out;rw [show qHV none = -1 from rfl];go_wp2_with fail
     go_ret;exact ⟨rfl, HB.out⟩
   | some j =>
    rw [show qHV (some j) = (j : Int) from rfl];have hj9 : j < L.length := by have := HB0.out.2 j rfl; have := HIN.out; have := HNN.out; omega
    obtain ⟨N, hN9⟩ : ∃ N, N = L.length := ⟨_, rfl⟩;rw [<- hN9] at c0;obtain ⟨b, o, hA9, hb9, _⟩ := HR.out.cells hj9;rw [hA9] at c0;have CX := hid (fun W (hb : Below wr.heap.size wr W) => show ∀ m u, (L[j].cells)[m]? = some u -> W.cell? ⟨b, o + j * 15 + m, none⟩ = some u from by
     obtain ⟨b', o', e, _, hc⟩ := (HR.out.below hb).cells hj9;rw [hA9] at e;cases e
     exact hc)
    have ZC := hid (fun W (hb : Below wr.heap.size wr W) => show W.cell? ⟨b, o + j * 15, none⟩ = some (.string L[j].name) /\ W.cell? ⟨b, o + j * 15 + 1, none⟩ = some (.int .i64 L[j].epoch) /\ W.cell? ⟨b, o + j * 15 + 2, none⟩ = some (.string L[j].ver) /\ W.cell? ⟨b, o + j * 15 + 3, none⟩ = some (.string L[j].rel) from ⟨CX.out W hb 0 _ rfl, CX.out W hb 1 _ rfl, CX.out W hb 2 _ rfl, CX.out W hb 3 _ rfl⟩);have XC := hid (fun W (hb : Below wr.heap.size wr W) => show W.cell? ⟨w.heap.size, 1, none⟩ = some (.int .i64 x.epoch) /\ W.cell? ⟨w.heap.size, 2, none⟩ = some (.string x.ver) /\ W.cell? ⟨w.heap.size, 3, none⟩ = some (.string x.rel) from ⟨(PA.out.calls hb).2.2.1, (PA.out.calls hb).2.2.2.1, (PA.out.calls hb).2.2.2.2.1⟩);have HCM := hid (show cmpQ L j n = ecmp L[j].evr x.evr from by unfold cmpQ; rw [List.getElem?_eq_getElem hj9, List.getElem?_eq_getElem HNN.out, <- HX.out]);have CM := hid (fun W => qTL L[j] x W (qCO (RP.out.may _ (List.getElem_mem hj9))) (qCO (by rw [HX.out]; exact RP.out.may _ (List.getElem_mem HNN.out))));obtain ⟨d, hd⟩ : ∃ d, d = cmpQ L j n := ⟨_, rfl⟩;rw [<- HCM.out, <- hd] at CM;have RK := hid (show rk = if d < 0 then 2 else if 0 < d then 3 else 4 from by rw [RK.out, hd]; rfl);have IJ := hid (show (0 : Int) <= (j : Int) /\ (j : Int) < (N : Int) by omega);have C0 := hid c0;clear HCM hd;generalize L[j] = z at *;have nj : ¬ (j : Int) < 0 := by omega
    clear hA9 hb9 hN9 hj9;go_wp2_with fail
    clear c0 c1 j1 nj;refine qAE (PP := qGQ Q b o N c w.heap.size j d z x) 12 rfl (by kernel_rfl) (by kernel_rfl) (by decide) (by decide) (qNO Q b o N c w.heap.size j d z x) (fun _ => undef) (by simp [qA2, gQ]) ?_ ?_
    ·intro i_ o_ vs W hi_ ho_ he hBW K hK;simp only [gT, qA2, gQ] at hK |-;have C0W := hid ((hBW.cell (p := ⟨Q, 0, none⟩) QL.out).trans C0.out);have ZW := hid (ZC.out W hBW);have XW := hid (XC.out W hBW);obtain rfl | rfl | rfl | rfl | rfl | rfl | rfl | rfl | rfl | rfl | rfl | rfl := (show i_ = 0 \/ i_ = 1 \/ i_ = 2 \/ i_ = 3 \/ i_ = 4 \/ i_ = 5 \/ i_ = 6 \/ i_ = 7 \/ i_ = 8 \/ i_ = 9 \/ i_ = 10 \/ i_ = 11 by exact (by have : i_ < 12 := hi_; omega)) <;> simp only [gE] at ho_ <;> subst ho_
     ·refine qA9 rfl ?_;simp only [gQ] at hK;have HK := hid hK;clear hK he hi_ hBW;go_simp;exact HK.out _ _ (by first | rfl | simp [qGQ]) bR
     ·have e0_ : vs 0 = _ := he ⟨0, .data⟩ (by simp) rfl;rw [e0_] at hK |-;refine qA9 rfl ?_;simp only [gQ] at hK;have HK := hid hK;clear hK he hi_ hBW;go_simp;exact HK.out _ _ (by first | rfl | simp [qGQ]) bR
     ·have e1_ : vs 1 = _ := he ⟨1, .data⟩ (by simp) rfl;rw [e1_] at hK |-;refine qA9 rfl ?_;simp only [gQ] at hK;have HK := hid hK;clear hK he hi_ hBW;go_simp;exact HK.out _ _ (by first | rfl | simp [qGQ]) bR
     ·have e2_ : vs 2 = _ := he ⟨2, .data⟩ (by simp) rfl;rw [e2_] at hK |-;refine qA9 rfl ?_;simp only [gQ] at hK;have HK := hid hK;clear hK he hi_ hBW;have cc0 := C0W.out;go_simp;exact HK.out _ _ rfl bR
     ·refine qA9 rfl ?_;simp only [gQ] at hK;have HK := hid hK;clear hK he hi_ hBW;go_simp;exact HK.out _ _ (by first | rfl | simp [qGQ]) bR
     ·have e3_ : vs 3 = _ := he ⟨3, .data⟩ (by simp) rfl;rw [e3_] at hK |-;have e4_ : vs 4 = _ := he ⟨4, .data⟩ (by simp) rfl;rw [e4_] at hK |-;refine qA9 rfl ?_;simp only [gQ] at hK;have HK := hid hK;clear hK he hi_ hBW;have i0 := IJ.out.1;have i1 := IJ.out.2;go_simp;exact HK.out _ _ (by simp [qGQ]) bR
     ·have e5_ : vs 5 = _ := he ⟨5, .data⟩ (by simp) rfl;rw [e5_] at hK |-;refine qA9 rfl ?_;simp only [gQ] at hK;have HK := hid hK;clear hK he hi_ hBW;go_simp;exact HK.out _ _ (by first | rfl | simp [qGQ]) bR
     ·have e6_ : vs 6 = _ := he ⟨6, .data⟩ (by simp) rfl;rw [e6_] at hK |-;refine qA9 rfl ?_;simp only [gQ] at hK;have HK := hid hK;clear hK he hi_ hBW;have cc0 := ZW.out.2.1;have cc1 := ZW.out.2.2.1;have cc2 := ZW.out.2.2.2;go_simp;exact HK.out _ _ rfl bR
     ·refine qA9 rfl ?_;simp only [gQ] at hK;have HK := hid hK;clear hK he hi_ hBW;go_simp;exact HK.out _ _ (by first | rfl | simp [qGQ]) bR
     ·have e8_ : vs 8 = _ := he ⟨8, .data⟩ (by simp) rfl;rw [e8_] at hK |-;refine qA9 rfl ?_;simp only [gQ] at hK;have HK := hid hK;clear hK he hi_ hBW;have cc0 := XW.out.1;have cc1 := XW.out.2.1;have cc2 := XW.out.2.2;go_simp;exact HK.out _ _ rfl bR
     ·have e7_ : vs 7 = _ := he ⟨7, .data⟩ (by simp) rfl;rw [e7_] at hK |-;have e9_ : vs 9 = _ := he ⟨9, .data⟩ (by simp) rfl;rw [e9_] at hK |-;refine qA9 rfl ?_;simp only [gQ] at hK;have HK := hid hK;clear hK he hi_ hBW;go_simp;go_at_call 134
      refine (CM.out W).mono ?_;rintro en w9 ⟨rfl, h⟩;go_simp;exact HK.out _ _ rfl h
     ·have e10_ : vs 10 = _ := he ⟨10, .data⟩ (by simp) rfl;rw [e10_] at hK |-;refine qA9 rfl ?_;simp only [gQ] at hK;have HK := hid hK;clear hK he hi_ hBW;go_simp;exact HK.out _ _ (by first | rfl | simp [qGQ]) bR
    ·intro vs W2 hall hBW;have e11 : vs 11 = .int .i64 d := hall 11 (by decide);simp only [gT, qA2, qA8, qA7, gP];rw [e11];generalize vs 0 = y0, vs 1 = y1, vs 2 = y2, vs 3 = y3, vs 4 = y4, vs 5 = y5, vs 6 = y6, vs 7 = y7, vs 8 = y8, vs 9 = y9, vs 10 = y10;have BW2 := hid (HB.out.trans (hBW.mono HB.out.size));clear hall hBW e11;by_cases d1 : d < 0
     ·obtain rfl : rk = 2 := by rw [RK.out, if_pos d1]
      go_wp2_with fail
      go_ret;exact ⟨rfl, BW2.out⟩
     by_cases d2 : 0 < d
     ·obtain rfl : rk = 3 := by rw [RK.out, if_neg d1, if_pos d2]
      go_wp2_with fail
      go_ret;exact ⟨rfl, BW2.out⟩
     ·obtain rfl : rk = 4 := by rw [RK.out, if_neg d1, if_neg d2]
      go_wp2_with fail
      go_ret;exact ⟨rfl, BW2.out⟩
