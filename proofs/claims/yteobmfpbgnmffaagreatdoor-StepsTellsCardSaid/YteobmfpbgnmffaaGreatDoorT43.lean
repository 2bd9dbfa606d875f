/- R30C -/
import Derived.Test.YteobmfpbgnmffaaGreatDoorT37
import Derived.Test.YteobmfpbgnmffaaGreatDoorT42
set_option linter.unusedVariables false
set_option maxHeartbeats 16000000
set_option maxRecDepth 100000
open Go.Lib (hid)
set_option linter.unusedSimpArgs false
namespace Go.Proofs.YteobmfpbgnmffaaGreatDoor
open Go.RowKit Go.Shelf
def qEA (L : List Pk) (I0 : Nat) (S : List Int) : List (Int × Int) := if badS L.length S then [] else (St.chgs I0 S 0 L.length).map fun k => (St.kindK I0 (nmQ L) (obQ L) (cmpQ L) S L.length k, (k : Int))
def goQ (L : List Pk) (n : Nat) (l : List Nat) : Int := if l.any (fun m => nmQ L m n) then 7 else if l.any (fun m => obQ L m n) then 8 else 6
theorem qVL {L : List Pk} {n m : Nat} {l : List Nat} (h : nmQ L m n = true) : goQ L n (l ++ [m]) = 7 := by unfold goQ; rw [List.any_append]; simp [h]
theorem qVU {L : List Pk} {n m : Nat} {l : List Nat} (h : nmQ L m n = false) : goQ L n (l ++ [m]) = if goQ L n l = 6 then (if obQ L m n then 8 else 6) else goQ L n l := by
 unfold goQ;rw [List.any_append, List.any_append];simp only [List.any_cons, List.any_nil, Bool.or_false, h];cases l.any (fun m => nmQ L m n)
 ·cases l.any (fun m => obQ L m n)
  ·cases obQ L m n <;> rfl
  ·rfl
 ·rfl
def qBR (Q b o N c g ns m9 : Nat) (A9 : Option Addr) (c9 : Nat) (y x : Pk) (hm nb : Bool) (i_ : Nat) (v : Value) (W : World) : Prop := match i_ with
 | 0 => v = .slice A9 ns c9
 | 1 => v = .int .i64 (m9 : Int)
 | 2 => v = .bool hm
 | 3 => v = .bool hm
 | 4 => v = cond hm (.pointer (some ⟨Q, 0, none⟩)) undef
 | 5 => v = cond hm (.pointer (some ⟨Q, 0, none⟩)) undef
 | 6 => v = cond hm (.pointer (some ⟨Q, 0, none⟩)) undef
 | 7 => v = cond hm (.slice (some ⟨b, o, none⟩) N c) undef
 | 8 => v = cond hm (.int .i64 (m9 : Int)) undef
 | 9 => v = cond hm (.pointer (some ⟨b, o + m9 * 15, none⟩)) undef
 | 10 => v = cond hm (.pointer (some ⟨b, o + m9 * 15, none⟩)) undef
 | 11 => v = cond hm (.string y.name) undef
 | 12 => v = cond hm (.pointer (some ⟨g, 0, none⟩)) undef
 | 13 => v = cond hm (.string x.name) undef
 | 14 => v = cond hm (.bool nb) undef
 | 15 => v = .bool (hm && nb)
 | _ => False
theorem qN9 (Q b o N c g ns m9 : Nat) (A9 : Option Addr) (c9 : Nat) (y x : Pk) (hm nb : Bool) : ∀ i_ v w w', qBR Q b o N c g ns m9 A9 c9 y x hm nb i_ v w -> Below w.heap.size w w' -> qBR Q b o N c g ns m9 A9 c9 y x hm nb i_ v w' := by
 intro i_ v w w' h _
 match i_, h with
 | 0, h | 1, h | 2, h | 3, h | 4, h | 5, h | 6, h | 7, h | 8, h | 9, h | 10, h | 11, h | 12, h | 13, h | 14, h | 15, h => exact h
 | (i_ + 16), h => exact h.elim
theorem qQQ {Q I0 : Nat} {L : List Pk} (A9 : Option Addr) (c9 : Nat) (S : List Int) (w : World) (hp : RPool Q (I0 : Int) L w) (hS : Rd encI 1 w.heap.size A9 c9 S w) (hSl : S.length <= 1000000) (hI : I0 <= L.length) (hN : L.length <= 100000) : Calls Tryz.prog 26 #[.pointer (some ⟨Q, 0, none⟩), .slice A9 S.length c9] w fun e w' => ∃ v, e = .returned (.tuple #[v, .int .i64 (if badS L.length S then 5 else 0)]) /\ Own qBG 2 w.heap.size 61 v (qEA L I0 S) w' /\ Below w.heap.size w w' := by
 have HAS := hid (fun (z : Int) W (hb : Below w.heap.size w W) => qLY A9 c9 S z W hSl ((hS.below hb).more hb.size));have IS := hid (fun (z : Int) W (hb : Below w.heap.size w W) => qKW z W (hp.then hb) (by omega));have CO := hid (fun (n : Nat) (hn : n < L.length) (h : I0 <= n) W (hb : Below w.heap.size w W) => qJN n A9 c9 S W (hp.then hb) ((hS.below hb).more hb.size) hSl hn h (by omega));have OBA := hid (fun (i j : Nat) (hi : i < L.length) (hj : j < L.length) (h : i ≠ j) W (hb : Below w.heap.size w W) => qHO i j hi hj h W (hp.then hb) (by omega));have RP := hid hp;have HS := hid hS;have HI := hid hI;obtain ⟨N, hN9⟩ : ∃ N, N = L.length := ⟨_, rfl⟩;have HN9 := hid hN9;have hN1 : N <= 100000 := by omega
 have RS := hid (show qEA L I0 S = if badS N S then [] else ((St.chgs I0 S 0 N).map fun k => (St.kindK I0 (nmQ L) (obQ L) (cmpQ L) S N k, (k : Int))) from by unfold qEA; rw [hN9]);rw [<- hN9] at IS |-;obtain ⟨ns, hns⟩ : ∃ ns, ns = S.length := ⟨_, rfl⟩;have HNS := hid hns;rw [<- hns] at HAS CO hSl |-;obtain ⟨bd, hbd⟩ : ∃ bd, bd = badS N S := ⟨_, rfl⟩;have BD := hid hbd;rw [<- hbd] at RS |-;have hI1 : I0 <= 1000000 := by omega
 clear hp hS hN hI hN9 hns hbd
 go_enter Tryz.func26, Tryz.ntmps26
 go_wp2_with fail
 go_loopw [6] (fun iv wr => ∃ i : Nat, i <= ns /\ iv = .int .i64 (i : Int) /\ Hid (∀ k (hk : k < S.length), k < i -> 0 <= S[k] /\ S[k] < (N : Int)) /\ Below w.heap.size w wr) (fun iv _ => ns - (intOf iv).toNat)
 case atStart => exact ⟨0, by omega, rfl, hid (by intro k hk h; omega), Below.refl _ _⟩
 case round =>
  obtain ⟨i, hi, rfl, HR, hB⟩ := hrel;rename World => wr
  have HB := hid hB;by_cases hlt : i < ns
  ·have hil : i < S.length := by have := HNS.out; omega
   obtain ⟨b, o, hA, hb, e0⟩ := qVM ((HS.out.below hB).more hB.size) hil;have HNX := hid (fun (h : 0 <= S[i] /\ S[i] < (N : Int)) => show ∀ k (hk : k < S.length), k < i + 1 -> 0 <= S[k] /\ S[k] < (N : Int) from fun k hk hki => by
    by_cases e : k = i
    ·subst e; exact h
    ·exact HR.out k hk (by omega))
   have HBAD := hid (fun (h : ¬ (0 <= S[i] /\ S[i] < (N : Int))) => show bd = true from by
    rw [BD.out];cases hq : badS N S
    ·exact absurd (qDG.1 hq _ (List.getElem_mem hil)) h
    ·rfl)
   subst hA;have ISZ := hid (IS.out S[i] wr HB.out);generalize S[i] = z at *;have i0 : (0 : Int) <= (i : Int) := by omega
   have i1 : (i : Int) < (ns : Int) := by omega
   clear hB hil hb;go_wp2_with fail
   go_at_call 88
   refine ISZ.out.mono ?_;rintro e wq ⟨rfl, rfl⟩;by_cases hz : 0 <= z /\ z < (N : Int)
   ·rw [decide_eq_true hz];have HNX := hid (HNX.out hz);clear hz HBAD;go_wp2_with fail
    go_roundw
    case rel => exact ⟨i + 1, by omega, by go_num, hid HNX.out, HB.out⟩
    case measure => simp [intOf]; omega
   ·rw [decide_eq_false hz];obtain rfl : bd = true := HBAD.out hz;clear hz HNX;go_wp2_with fail
    go_ret2
    exact ⟨_, rfl, by rw [RS.out]; exact Own.nil_ _ _ _, HB.out⟩
  ·obtain rfl : ns = i := by omega
   have i1 : ¬ (ns : Int) < (ns : Int) := by omega
   have hbf : bd = false := by
    rw [BD.out];exact qDG.2 fun z hz => by
     obtain ⟨k, hk, rfl⟩ := List.getElem_of_mem hz;exact HR.out k hk (by have := HNS.out; omega)
   subst hbf;have RS := hid (show qEA L I0 S = ((St.chgs I0 S 0 N).map fun k => (St.kindK I0 (nmQ L) (obQ L) (cmpQ L) S N k, (k : Int))) from RS.out);clear hB IS HR;go_wp2_with fail
   go_loopw [7, 8] (fun ov nv wx => ∃ (n : Nat) (os : List (Int × Int)), n <= N /\ nv = .int .i64 (n : Int) /\ Hid (os = ((St.chgs I0 S 0 n).map fun k => (St.kindK I0 (nmQ L) (obQ L) (cmpQ L) S N k, (k : Int)))) /\ os.length <= n /\ Own qBG 2 w.heap.size 61 ov os wx /\ Below w.heap.size w wx) (fun _ nv _ => N - (intOf nv).toNat)
   case atStart => exact ⟨0, [], Nat.zero_le _, rfl, hid (by rw [qCS]; rfl), by simp, Own.nil_ _ _ _, HB.out⟩
   case round =>
    obtain ⟨n, os, hn, rfl, HSO, hle, how, hB⟩ := hrel;rename World => wx
    have HB := hid hB;have HLE := hid hle;have RW := hid (RP.out.then hB);obtain ⟨A, c, c0, hR⟩ := RW.out.at_.c0;have c1 := RW.out.at_.c1;have QL := hid RW.out.at_.lt;have HRR := hid hR;rw [<- HN9.out] at c0;obtain ⟨VA, vc, hv⟩ := qAF how;subst hv;obtain ⟨ol, hol⟩ : ∃ ol, ol = os.length := ⟨_, rfl⟩;unfold Own at how;rw [<- hol] at how |-;have OW := hid how;have HOS := hid hol;have HOL := hid (show ol <= 100000 by have := HLE.out; omega);have hol1 : ol <= 1000000 := by have := HLE.out; omega
    clear how hle hB hR hol;by_cases hlt : n < N
    ·have j1 : (n : Int) < (N : Int) := by omega
     have hnl : n < L.length := by have := HN9.out; omega
     have HA := hid (HAS.out (n : Int) wx HB.out);have HCS := hid (qDF (S := S) n);obtain ⟨cin, hcin⟩ : ∃ cin, cin = S.contains (n : Int) := ⟨_, rfl⟩;rw [<- hcin] at HA HCS;have HST := hid (show St.chgs I0 S 0 (n + 1) = St.chgs I0 S 0 n ++ (if St.chg I0 S n then [n] else []) from qLO);have HCG := hid (show St.chg I0 S n = (cin != decide (n < I0)) from by unfold St.chg; rw [<- HCS.out]);obtain ⟨b, o, hA9, hb9, _⟩ := HRR.out.cells hnl;have CX := hid (fun (k : Nat) (hk : k < L.length) W (hb : Below wx.heap.size wx W) => show ∀ m u, (L[k].cells)[m]? = some u -> W.cell? ⟨b, o + k * 15 + m, none⟩ = some u from by
      obtain ⟨b', o', e, _, hc⟩ := (HRR.out.below hb).cells hk;rw [hA9] at e;cases e
      exact hc)
     rw [hA9] at c0;have C0 := hid c0;have C1 := hid c1;have CON := hid (fun (h : I0 <= n) W (hb : Below w.heap.size w W) => CO.out n hnl h W hb);have CXN := hid (CX.out n hnl);have XNM := hid (fun (m : Nat) (hm : m < L.length) => show nmQ L m n = decide ((L[m]).name = (L[n]'hnl).name) from by unfold nmQ; rw [List.getElem?_eq_getElem hm, List.getElem?_eq_getElem hnl]);generalize L[n] = x at *;clear hA9 hb9 hcin HCS;go_wp2_with fail
     go_at_call 89
     refine HA.out.mono ?_;rintro e wq ⟨rfl, rfl⟩;have NOT := hid (fun (h : cin = decide (n < I0)) => show os = ((St.chgs I0 S 0 (n + 1)).map fun k => (St.kindK I0 (nmQ L) (obQ L) (cmpQ L) S N k, (k : Int))) from by rw [HST.out, HCG.out, <- h]; simp [HSO.out]);have YES := hid (fun (h : (cin != decide (n < I0)) = true) (kd : Int) (hk : kd = St.kindK I0 (nmQ L) (obQ L) (cmpQ L) S N n) => show Hid (os ++ [(kd, (n : Int))] = ((St.chgs I0 S 0 (n + 1)).map fun k => (St.kindK I0 (nmQ L) (obQ L) (cmpQ L) S N k, (k : Int)))) from hid (by rw [HST.out, HCG.out, h, hk, List.map_append, <- HSO.out]; rfl));by_cases hnI : n < I0
     ·have j2 : (n : Int) < (I0 : Int) := by omega
      cases cin
      ·have YES := hid (YES.out (by rw [decide_eq_true hnI]; rfl));have KGO := hid (show St.kindK I0 (nmQ L) (obQ L) (cmpQ L) S N n = goQ L n (St.chgs I0 S I0 N) from by unfold St.kindK; rw [if_pos hnI]; rfl);clear NOT CON;have e9 : ∀ m u, x.cells[m]? = some u -> wx.cell? ⟨b, o + n * 15 + m, none⟩ = some u := CXN.out wx bR;have e0_ : wx.cell? ⟨b, o + n * 15, none⟩ = some (.string x.name) := e9 0 _ rfl;have e1_ : wx.cell? ⟨b, o + n * 15 + 1, none⟩ = some (.int .i64 x.epoch) := e9 1 _ rfl;have e2_ : wx.cell? ⟨b, o + n * 15 + 2, none⟩ = some (.string x.ver) := e9 2 _ rfl;have e3_ : wx.cell? ⟨b, o + n * 15 + 3, none⟩ = some (.string x.rel) := e9 3 _ rfl;have e4_ : wx.cell? ⟨b, o + n * 15 + 4, none⟩ = some (.int .u8 x.arch) := e9 4 _ rfl;have e5_ : wx.cell? ⟨b, o + n * 15 + 5, none⟩ = some (.string x.vendor) := e9 5 _ rfl;have e6_ : wx.cell? ⟨b, o + n * 15 + 6, none⟩ = some (.slice x.provA x.prov.length x.provC) := e9 6 _ rfl;have e7_ : wx.cell? ⟨b, o + n * 15 + 7, none⟩ = some (.slice x.reqA x.req.length x.reqC) := e9 7 _ rfl;have e8_ : wx.cell? ⟨b, o + n * 15 + 8, none⟩ = some (.slice x.conA x.con.length x.conC) := e9 8 _ rfl;have e9_ : wx.cell? ⟨b, o + n * 15 + 9, none⟩ = some (.slice x.obsA x.obs.length x.obsC) := e9 9 _ rfl;have e10_ : wx.cell? ⟨b, o + n * 15 + 10, none⟩ = some (.slice x.rcmA x.rcm.length x.rcmC) := e9 10 _ rfl;have e11_ : wx.cell? ⟨b, o + n * 15 + 11, none⟩ = some (.slice x.supA x.sup.length x.supC) := e9 11 _ rfl;have e12_ : wx.cell? ⟨b, o + n * 15 + 12, none⟩ = some (.slice x.sugA x.sug.length x.sugC) := e9 12 _ rfl;have e13_ : wx.cell? ⟨b, o + n * 15 + 13, none⟩ = some (.slice x.enhA x.enh.length x.enhC) := e9 13 _ rfl;have e14_ : wx.cell? ⟨b, o + n * 15 + 14, none⟩ = some (.slice x.filesA x.files.length x.filesC) := e9 14 _ rfl;clear e9;have j0 : (0 : Int) <= (n : Int) := by omega
       have BA := hid (HB.out.alloc HB.out.size (.cells #[.string x.name, .int .i64 x.epoch, .string x.ver, .string x.rel, .int .u8 x.arch, .string x.vendor, .slice x.provA x.prov.length x.provC, .slice x.reqA x.req.length x.reqC, .slice x.conA x.con.length x.conC, .slice x.obsA x.obs.length x.obsC, .slice x.rcmA x.rcm.length x.rcmC, .slice x.supA x.sup.length x.supC, .slice x.sugA x.sug.length x.sugC, .slice x.enhA x.enh.length x.enhC, .slice x.filesA x.files.length x.filesC] 28));have PA := hid (PkAt.new wx x);have OW5 := hid (World.ownsRow.alloc OW.out (.cells #[.string x.name, .int .i64 x.epoch, .string x.ver, .string x.rel, .int .u8 x.arch, .string x.vendor, .slice x.provA x.prov.length x.provC, .slice x.reqA x.req.length x.reqC, .slice x.conA x.con.length x.conC, .slice x.obsA x.obs.length x.obsC, .slice x.rcmA x.rcm.length x.rcmC, .slice x.supA x.sup.length x.supC, .slice x.sugA x.sug.length x.sugC, .slice x.enhA x.enh.length x.enhC, .slice x.filesA x.files.length x.filesC] 28));have BXA := hid ((Below.refl wx.heap.size wx).alloc lR (.cells #[.string x.name, .int .i64 x.epoch, .string x.ver, .string x.rel, .int .u8 x.arch, .string x.vendor, .slice x.provA x.prov.length x.provC, .slice x.reqA x.req.length x.reqC, .slice x.conA x.con.length x.conC, .slice x.obsA x.obs.length x.obsC, .slice x.rcmA x.rcm.length x.rcmC, .slice x.supA x.sup.length x.supC, .slice x.sugA x.sug.length x.sugC, .slice x.enhA x.enh.length x.enhC, .slice x.filesA x.files.length x.filesC] 28));have c0' := (BXA.out.cell (p := ⟨Q, 0, none⟩) QL.out).trans C0.out;have c1' := (BXA.out.cell (p := ⟨Q, 1, none⟩) QL.out).trans C1.out;go_wp2_with (refine qBO (by rfl) 28 (.tmp 10) (.tmp 52) (by rfl) wx _ _ (by rfl) wx.heap.size (by rfl) (by rfl) (by rfl) (by kernel_rfl) (by rfl) (by rfl) ?_)
       clear e0_ e1_ e2_ e3_ e4_ e5_ e6_ e7_ e8_ e9_ e10_ e11_ e12_ e13_ e14_ c0 c1 c0' c1';generalize wx.alloc (.cells #[.string x.name, .int .i64 x.epoch, .string x.ver, .string x.rel, .int .u8 x.arch, .string x.vendor, .slice x.provA x.prov.length x.provC, .slice x.reqA x.req.length x.reqC, .slice x.conA x.con.length x.conC, .slice x.obsA x.obs.length x.obsC, .slice x.rcmA x.rcm.length x.rcmC, .slice x.supA x.sup.length x.supC, .slice x.sugA x.sug.length x.sugC, .slice x.enhA x.enh.length x.enhC, .slice x.filesA x.files.length x.filesC] 28) = W1 at *
       go_loopw [11, 12] (fun kv mv wy => ∃ m9 : Nat, I0 <= m9 /\ m9 <= N /\ mv = .int .i64 (m9 : Int) /\ kv = .int .u8 (goQ L n (St.chgs I0 S I0 m9)) /\ Below W1.heap.size W1 wy) (fun _ mv _ => N - (intOf mv).toNat)
       case atStart => exact ⟨I0, Nat.le_refl _, by have := HI.out; have := HN9.out; omega, rfl, by rw [qCS]; rfl, Below.refl _ _⟩
       case round =>
        obtain ⟨m9, hm0, hm1, rfl, rfl, hB2⟩ := hrel;rename World => wy
        have HY := hid hB2;have HXY := hid (BXA.out.trans (hB2.mono BXA.out.size));have HWY := hid (BA.out.trans (hB2.mono BA.out.size));have c0 := (HXY.out.cell (p := ⟨Q, 0, none⟩) QL.out).trans C0.out;have c1 := (HXY.out.cell (p := ⟨Q, 1, none⟩) QL.out).trans C1.out;have PY := hid (PA.out.calls hB2);have OWY := hid (Own.below (enc := qBG) (l := os) (by unfold Own; rw [<- HOS.out]; exact OW5.out) hB2 lR);have QLY := hid (Nat.lt_of_lt_of_le QL.out HXY.out.size);have C0Y := hid c0;obtain ⟨k, hk⟩ : ∃ k, k = goQ L n (St.chgs I0 S I0 m9) := ⟨_, rfl⟩;have HK9 := hid hk;rw [<- hk];clear hB2 hk;by_cases hlm : m9 < N
        ·have hml : m9 < L.length := by have := HN9.out; omega
         have HAM := hid (HAS.out (m9 : Int));have HCM := hid (qDF (S := S) m9);obtain ⟨hm, hhm9⟩ : ∃ hm, hm = S.contains (m9 : Int) := ⟨_, rfl⟩;rw [<- hhm9] at HAM HCM;have HSM := hid (show St.chgs I0 S I0 (m9 + 1) = St.chgs I0 S I0 m9 ++ (if hm then [m9] else []) from by rw [qHK hm0 (Nat.le_succ m9), qJX (Nat.lt_succ_self m9), qCS, List.append_nil]; unfold St.chg; rw [<- HCM.out, decide_eq_false (show ¬ m9 < I0 by omega)]; cases hm <;> rfl);have YC := hid (fun W (hb : Below wy.heap.size wy W) => show W.cell? ⟨b, o + m9 * 15, none⟩ = some (.string (L[m9]).name) from CX.out m9 hml W (HXY.out.trans (hb.mono HXY.out.size)) 0 _ rfl);have OBM := hid (fun W (hb : Below w.heap.size w W) => OBA.out m9 n hml hnl (by omega) W hb);obtain ⟨nb, hnb9⟩ : ∃ nb, nb = nmQ L m9 n := ⟨_, rfl⟩;have HNB := hid hnb9;have Q1 := hid (show ((L[m9]).name.toList == x.name.toList) = nb from by rw [hnb9, XNM.out m9 hml, Bool.eq_iff_iff]; simp; exact ⟨qBD, fun h => by rw [h]⟩);obtain ⟨ob, hob⟩ : ∃ ob, ob = obQ L m9 n := ⟨_, rfl⟩;have HOB := hid hob;have OBM := hid (fun W (hb : Below w.heap.size w W) => show Calls Tryz.prog 91 #[.pointer (some ⟨Q, 0, none⟩), .int .i64 (m9 : Int), .int .i64 (n : Int)] W fun e w' => e = .returned (.bool ob) /\ Below W.heap.size W w' from hob ▸ OBM.out W hb);generalize L[m9] = y at *;have IK := hid (show (0 : Int) <= (m9 : Int) /\ (m9 : Int) < (N : Int) by omega);have k1 : (m9 : Int) < (N : Int) := by omega
         have NX0 := hid (fun (h : hm = false) => show k = goQ L n (St.chgs I0 S I0 (m9 + 1)) from by rw [HSM.out, h, HK9.out]; simp);have NX7 := hid (fun (h : hm = true) (h2 : nb = true) => show (7 : Int) = goQ L n (St.chgs I0 S I0 (m9 + 1)) from by rw [HSM.out, h]; exact (qVL (HNB.out ▸ h2)).symm);have NXN := hid (fun (h : hm = true) (h2 : nb = false) => show (if k = 6 then (if ob then 8 else 6) else k) = goQ L n (St.chgs I0 S I0 (m9 + 1)) from by rw [HSM.out, h, HK9.out, HOB.out]; exact (qVU (HNB.out ▸ h2)).symm);clear hhm9 hnb9 hob hml;go_wp2_with fail
         clear c0 c1 k1;rcases Bool.eq_false_or_eq_true hm with hhm | hhm
         all_goals have HHM := hid hhm
         all_goals clear hhm
         all_goals
          refine qAE (PP := qBR Q b o N c wx.heap.size ns m9 A9 c9 y x hm nb) 16 rfl (by kernel_rfl) (by kernel_rfl) (by decide) (by decide) (qN9 Q b o N c wx.heap.size ns m9 A9 c9 y x hm nb) (fun ii => match ii with | 0 => u77 | 1 => u78 | 2 => u79 | 3 => u80 | 4 => u81 | 5 => u82 | 6 => u83 | 7 => u84 | 8 => u85 | 9 => u86 | 10 => u87 | 11 => u88 | 12 => u89 | 13 => u90 | 14 => u91 | 15 => u92 | _ => undef) (by simp [qA2, gQ]) ?_ ?_
          ·intro i_ o_ vs W hi_ ho_ he hBW K hK;simp only [gT, qA2, gQ] at hK |-;have HWW := hid (HWY.out.trans (hBW.mono HWY.out.size));have C0W := hid ((hBW.cell (p := ⟨Q, 0, none⟩) QLY.out).trans C0Y.out);have YW := hid (YC.out W hBW);have XW := hid ((PY.out.calls hBW).2.1);obtain rfl | rfl | rfl | rfl | rfl | rfl | rfl | rfl | rfl | rfl | rfl | rfl | rfl | rfl | rfl | rfl := (show i_ = 0 \/ i_ = 1 \/ i_ = 2 \/ i_ = 3 \/ i_ = 4 \/ i_ = 5 \/ i_ = 6 \/ i_ = 7 \/ i_ = 8 \/ i_ = 9 \/ i_ = 10 \/ i_ = 11 \/ i_ = 12 \/ i_ = 13 \/ i_ = 14 \/ i_ = 15 by exact (by have : i_ < 16 := hi_; omega)) <;> simp only [gE] at ho_ <;> subst ho_
           iterate 2 ·refine qA9 rfl ?_;simp only [gQ] at hK;have HK := hid hK;clear hK he hi_ hBW;go_simp;exact HK.out _ _ (by first | rfl | simp [qBR, HHM.out]) bR
           ·have e0_ : vs 0 = _ := he ⟨0, .data⟩ (by simp) rfl;rw [e0_] at hK |-;have e1_ : vs 1 = _ := he ⟨1, .data⟩ (by simp) rfl;rw [e1_] at hK |-;refine qA9 rfl ?_;simp only [gQ] at hK;have HK := hid hK;clear hK he hi_ hBW;go_simp;go_at_call 89
            refine (HAM.out W HWW.out).mono ?_;rintro en w9 ⟨rfl, rfl⟩;go_simp;exact HK.out _ _ (by first | rfl | simp [qBR, HHM.out]) bR
           ·have e2_ : vs 2 = _ := he ⟨2, .data⟩ (by simp) rfl
            try simp only [HHM.out, cond_true, cond_false, Bool.true_and, Bool.false_and, Bool.and_true, Bool.and_false, Bool.not_true, Bool.not_false, Bool.true_or, Bool.false_or, Bool.or_true, Bool.or_false] at e2_
            rw [e2_] at hK |-;refine qA9 rfl ?_;simp only [gQ] at hK;have HK := hid hK;clear hK he hi_ hBW;go_simp;exact HK.out _ _ (by first | rfl | simp [qBR, HHM.out]) bR
           ·have e3_ : vs 3 = _ := he ⟨3, .guard⟩ (by simp) rfl
            try simp only [HHM.out, cond_true, cond_false, Bool.true_and, Bool.false_and, Bool.and_true, Bool.and_false, Bool.not_true, Bool.not_false, Bool.true_or, Bool.false_or, Bool.or_true, Bool.or_false] at e3_
            rw [e3_] at hK |-
            first
             | (refine qA9 rfl ?_; simp only [gQ] at hK; have HK := hid hK; clear hK he hi_ hBW; go_simp; exact HK.out _ _ (by first | rfl | simp [qBR, HHM.out]) bR)
             | (refine qAU Bool.false_ne_true ?_; exact hK _ _ (by simp [qBR, HHM.out]) bR)
           ·have e4_ : vs 4 = _ := he ⟨4, .data⟩ (by simp) rfl
            try simp only [HHM.out, cond_true, cond_false, Bool.true_and, Bool.false_and, Bool.and_true, Bool.and_false, Bool.not_true, Bool.not_false, Bool.true_or, Bool.false_or, Bool.or_true, Bool.or_false] at e4_
            rw [e4_] at hK |-;have e3_ : vs 3 = _ := he ⟨3, .guard⟩ (by simp) rfl
            try simp only [HHM.out, cond_true, cond_false, Bool.true_and, Bool.false_and, Bool.and_true, Bool.and_false, Bool.not_true, Bool.not_false, Bool.true_or, Bool.false_or, Bool.or_true, Bool.or_false] at e3_
            rw [e3_] at hK |-
            first
             | (refine qA9 rfl ?_; simp only [gQ] at hK; have HK := hid hK; clear hK he hi_ hBW; go_simp; exact HK.out _ _ (by first | rfl | simp [qBR, HHM.out]) bR)
             | (refine qAU Bool.false_ne_true ?_; exact hK _ _ (by simp [qBR, HHM.out]) bR)
           ·have e5_ : vs 5 = _ := he ⟨5, .data⟩ (by simp) rfl
            try simp only [HHM.out, cond_true, cond_false, Bool.true_and, Bool.false_and, Bool.and_true, Bool.and_false, Bool.not_true, Bool.not_false, Bool.true_or, Bool.false_or, Bool.or_true, Bool.or_false] at e5_
            rw [e5_] at hK |-;have e3_ : vs 3 = _ := he ⟨3, .guard⟩ (by simp) rfl
            try simp only [HHM.out, cond_true, cond_false, Bool.true_and, Bool.false_and, Bool.and_true, Bool.and_false, Bool.not_true, Bool.not_false, Bool.true_or, Bool.false_or, Bool.or_true, Bool.or_false] at e3_
            rw [e3_] at hK |-
            first
             | (refine qA9 rfl ?_; simp only [gQ] at hK; have HK := hid hK; clear hK he hi_ hBW; go_simp; exact HK.out _ _ (by first | rfl | simp [qBR, HHM.out]) bR)
             | (refine qAU Bool.false_ne_true ?_; exact hK _ _ (by simp [qBR, HHM.out]) bR)
           ·have e6_ : vs 6 = _ := he ⟨6, .data⟩ (by simp) rfl
            try simp only [HHM.out, cond_true, cond_false, Bool.true_and, Bool.false_and, Bool.and_true, Bool.and_false, Bool.not_true, Bool.not_false, Bool.true_or, Bool.false_or, Bool.or_true, Bool.or_false] at e6_
            rw [e6_] at hK |-;have e3_ : vs 3 = _ := he ⟨3, .guard⟩ (by simp) rfl
            try simp only [HHM.out, cond_true, cond_false, Bool.true_and, Bool.false_and, Bool.and_true, Bool.and_false, Bool.not_true, Bool.not_false, Bool.true_or, Bool.false_or, Bool.or_true, Bool.or_false] at e3_
            rw [e3_] at hK |-
            first
             | (refine qA9 rfl ?_; simp only [gQ] at hK; have HK := hid hK; clear hK he hi_ hBW; have cc := C0W.out; go_simp; exact HK.out _ _ (by first | rfl | simp [qBR, HHM.out]) bR)
             | (refine qAU Bool.false_ne_true ?_; exact hK _ _ (by simp [qBR, HHM.out]) bR)
           ·have e3_ : vs 3 = _ := he ⟨3, .guard⟩ (by simp) rfl
            try simp only [HHM.out, cond_true, cond_false, Bool.true_and, Bool.false_and, Bool.and_true, Bool.and_false, Bool.not_true, Bool.not_false, Bool.true_or, Bool.false_or, Bool.or_true, Bool.or_false] at e3_
            rw [e3_] at hK |-
            first
             | (refine qA9 rfl ?_; simp only [gQ] at hK; have HK := hid hK; clear hK he hi_ hBW; go_simp; exact HK.out _ _ (by first | rfl | simp [qBR, HHM.out]) bR)
             | (refine qAU Bool.false_ne_true ?_; exact hK _ _ (by simp [qBR, HHM.out]) bR)
           ·have e7_ : vs 7 = _ := he ⟨7, .data⟩ (by simp) rfl
            try simp only [HHM.out, cond_true, cond_false, Bool.true_and, Bool.false_and, Bool.and_true, Bool.and_false, Bool.not_true, Bool.not_false, Bool.true_or, Bool.false_or, Bool.or_true, Bool.or_false] at e7_
            rw [e7_] at hK |-;have e8_ : vs 8 = _ := he ⟨8, .data⟩ (by simp) rfl
            try simp only [HHM.out, cond_true, cond_false, Bool.true_and, Bool.false_and, Bool.and_true, Bool.and_false, Bool.not_true, Bool.not_false, Bool.true_or, Bool.false_or, Bool.or_true, Bool.or_false] at e8_
            rw [e8_] at hK |-;have e3_ : vs 3 = _ := he ⟨3, .guard⟩ (by simp) rfl
            try simp only [HHM.out, cond_true, cond_false, Bool.true_and, Bool.false_and, Bool.and_true, Bool.and_false, Bool.not_true, Bool.not_false, Bool.true_or, Bool.false_or, Bool.or_true, Bool.or_false] at e3_
            rw [e3_] at hK |-
            first
             | (refine qA9 rfl ?_; simp only [gQ] at hK; have HK := hid hK; clear hK he hi_ hBW; have i0 := IK.out.1; have i1 := IK.out.2; go_simp; exact HK.out _ _ (by simp [qBR, HHM.out]) bR)
             | (refine qAU Bool.false_ne_true ?_; exact hK _ _ (by simp [qBR, HHM.out]) bR)
           ·have e9_ : vs 9 = _ := he ⟨9, .data⟩ (by simp) rfl
            try simp only [HHM.out, cond_true, cond_false, Bool.true_and, Bool.false_and, Bool.and_true, Bool.and_false, Bool.not_true, Bool.not_false, Bool.true_or, Bool.false_or, Bool.or_true, Bool.or_false] at e9_
            rw [e9_] at hK |-;have e3_ : vs 3 = _ := he ⟨3, .guard⟩ (by simp) rfl
            try simp only [HHM.out, cond_true, cond_false, Bool.true_and, Bool.false_and, Bool.and_true, Bool.and_false, Bool.not_true, Bool.not_false, Bool.true_or, Bool.false_or, Bool.or_true, Bool.or_false] at e3_
            rw [e3_] at hK |-
            first
             | (refine qA9 rfl ?_; simp only [gQ] at hK; have HK := hid hK; clear hK he hi_ hBW; go_simp; exact HK.out _ _ (by first | rfl | simp [qBR, HHM.out]) bR)
             | (refine qAU Bool.false_ne_true ?_; exact hK _ _ (by simp [qBR, HHM.out]) bR)
           ·have e10_ : vs 10 = _ := he ⟨10, .data⟩ (by simp) rfl
            try simp only [HHM.out, cond_true, cond_false, Bool.true_and, Bool.false_and, Bool.and_true, Bool.and_false, Bool.not_true, Bool.not_false, Bool.true_or, Bool.false_or, Bool.or_true, Bool.or_false] at e10_
            rw [e10_] at hK |-;have e3_ : vs 3 = _ := he ⟨3, .guard⟩ (by simp) rfl
            try simp only [HHM.out, cond_true, cond_false, Bool.true_and, Bool.false_and, Bool.and_true, Bool.and_false, Bool.not_true, Bool.not_false, Bool.true_or, Bool.false_or, Bool.or_true, Bool.or_false] at e3_
            rw [e3_] at hK |-
            first
             | (refine qA9 rfl ?_; simp only [gQ] at hK; have HK := hid hK; clear hK he hi_ hBW; have cc := YW.out; go_simp; exact HK.out _ _ (by first | rfl | simp [qBR, HHM.out]) bR)
             | (refine qAU Bool.false_ne_true ?_; exact hK _ _ (by simp [qBR, HHM.out]) bR)
           ·have e3_ : vs 3 = _ := he ⟨3, .guard⟩ (by simp) rfl
            try simp only [HHM.out, cond_true, cond_false, Bool.true_and, Bool.false_and, Bool.and_true, Bool.and_false, Bool.not_true, Bool.not_false, Bool.true_or, Bool.false_or, Bool.or_true, Bool.or_false] at e3_
            rw [e3_] at hK |-
            first
             | (refine qA9 rfl ?_; simp only [gQ] at hK; have HK := hid hK; clear hK he hi_ hBW; go_simp; exact HK.out _ _ (by first | rfl | simp [qBR, HHM.out]) bR)
             | (refine qAU Bool.false_ne_true ?_; exact hK _ _ (by simp [qBR, HHM.out]) bR)
           ·have e12_ : vs 12 = _ := he ⟨12, .data⟩ (by simp) rfl
            try simp only [HHM.out, cond_true, cond_false, Bool.true_and, Bool.false_and, Bool.and_true, Bool.and_false, Bool.not_true, Bool.not_false, Bool.true_or, Bool.false_or, Bool.or_true, Bool.or_false] at e12_
            rw [e12_] at hK |-;have e3_ : vs 3 = _ := he ⟨3, .guard⟩ (by simp) rfl
            try simp only [HHM.out, cond_true, cond_false, Bool.true_and, Bool.false_and, Bool.and_true, Bool.and_false, Bool.not_true, Bool.not_false, Bool.true_or, Bool.false_or, Bool.or_true, Bool.or_false] at e3_
            rw [e3_] at hK |-
            first
             | (refine qA9 rfl ?_; simp only [gQ] at hK; have HK := hid hK; clear hK he hi_ hBW; have cc := XW.out; go_simp; exact HK.out _ _ (by first | rfl | simp [qBR, HHM.out]) bR)
             | (refine qAU Bool.false_ne_true ?_; exact hK _ _ (by simp [qBR, HHM.out]) bR)
           ·have e11_ : vs 11 = _ := he ⟨11, .data⟩ (by simp) rfl
            try simp only [HHM.out, cond_true, cond_false, Bool.true_and, Bool.false_and, Bool.and_true, Bool.and_false, Bool.not_true, Bool.not_false, Bool.true_or, Bool.false_or, Bool.or_true, Bool.or_false] at e11_
            rw [e11_] at hK |-;have e13_ : vs 13 = _ := he ⟨13, .data⟩ (by simp) rfl
            try simp only [HHM.out, cond_true, cond_false, Bool.true_and, Bool.false_and, Bool.and_true, Bool.and_false, Bool.not_true, Bool.not_false, Bool.true_or, Bool.false_or, Bool.or_true, Bool.or_false] at e13_
            rw [e13_] at hK |-;have e3_ : vs 3 = _ := he ⟨3, .guard⟩ (by simp) rfl
            try simp only [HHM.out, cond_true, cond_false, Bool.true_and, Bool.false_and, Bool.and_true, Bool.and_false, Bool.not_true, Bool.not_false, Bool.true_or, Bool.false_or, Bool.or_true, Bool.or_false] at e3_
            rw [e3_] at hK |-
            first
             | (refine qA9 rfl ?_; simp only [gQ] at hK; have HK := hid hK; clear hK he hi_ hBW; have q1 := Q1.out; go_simp; exact HK.out _ _ (by simp [qBR, q1, HHM.out]) bR)
             | (refine qAU Bool.false_ne_true ?_; exact hK _ _ (by simp [qBR, HHM.out]) bR)
           ·have e3_ : vs 3 = _ := he ⟨3, .data⟩ (by simp) rfl
            try simp only [HHM.out, cond_true, cond_false, Bool.true_and, Bool.false_and, Bool.and_true, Bool.and_false, Bool.not_true, Bool.not_false, Bool.true_or, Bool.false_or, Bool.or_true, Bool.or_false] at e3_
            rw [e3_] at hK |-;have e14_ : vs 14 = _ := he ⟨14, .data⟩ (by simp) rfl
            try simp only [HHM.out, cond_true, cond_false, Bool.true_and, Bool.false_and, Bool.and_true, Bool.and_false, Bool.not_true, Bool.not_false, Bool.true_or, Bool.false_or, Bool.or_true, Bool.or_false] at e14_
            rw [e14_] at hK |-;refine qA9 rfl ?_;simp only [gQ] at hK;have HK := hid hK;clear hK he hi_ hBW;go_simp;exact HK.out _ _ (by first | rfl | simp [qBR, HHM.out]) bR
         ·skip
          intro vs W2 hall hBW;have e15 : vs 15 = .bool (hm && nb) := hall 15 (by decide);simp only [gT, qA2, qA8, qA7, gP];rw [e15];generalize vs 0 = y0, vs 1 = y1, vs 2 = y2, vs 3 = y3, vs 4 = y4, vs 5 = y5, vs 6 = y6, vs 7 = y7, vs 8 = y8, vs 9 = y9, vs 10 = y10, vs 11 = y11, vs 12 = y12, vs 13 = y13, vs 14 = y14;have HWW := hid (HWY.out.trans (hBW.mono HWY.out.size));have HYY := hid (HY.out.trans (hBW.mono HY.out.size));clear hall hBW e15;obtain rfl : hm = true := HHM.out;cases nb
          ·have NX := hid (NXN.out rfl rfl);by_cases hk6 : k = 6
           ·rw [if_pos hk6] at NX;subst hk6;cases ob
            ·go_wp2_with fail
             go_at_call 89
             refine (HAM.out W2 HWW.out).mono ?_;rintro en w9 ⟨rfl, rfl⟩;go_wp2_with fail
             go_at_call 91
             refine (OBM.out _ HWW.out).mono ?_;rintro en w9 ⟨rfl, h9⟩;have HY9 := hid (HYY.out.trans (h9.mono HYY.out.size));clear h9;go_wp2_with fail
             go_roundw
             case rel => exact ⟨m9 + 1, by omega, by omega, by go_num, by rw [<- NX.out]; rfl, HY9.out⟩
             case measure => simp [intOf]; omega
            ·go_wp2_with fail
             go_at_call 89
             refine (HAM.out W2 HWW.out).mono ?_;rintro en w9 ⟨rfl, rfl⟩;go_wp2_with fail
             go_at_call 91
             refine (OBM.out _ HWW.out).mono ?_;rintro en w9 ⟨rfl, h9⟩;have HY9 := hid (HYY.out.trans (h9.mono HYY.out.size));clear h9;go_wp2_with fail
             go_roundw
             case rel => exact ⟨m9 + 1, by omega, by omega, by go_num, by rw [<- NX.out]; rfl, HY9.out⟩
             case measure => simp [intOf]; omega
           ·rw [if_neg hk6] at NX;have hk7 : (k == 6) = false := by simpa using hk6
            clear hk6;go_wp2_with fail
            go_at_call 89
            refine (HAM.out W2 HWW.out).mono ?_;rintro en w9 ⟨rfl, rfl⟩;go_wp2_with fail
            go_roundw
            case rel => exact ⟨m9 + 1, by omega, by omega, by go_num, by rw [<- NX.out], HYY.out⟩
            case measure => simp [intOf]; omega
          ·have NX := hid (NX7.out rfl rfl);go_wp2_with fail
           go_at_call 89
           refine (HAM.out W2 HWW.out).mono ?_;rintro en w9 ⟨rfl, rfl⟩;go_wp2_with fail
           go_roundw
           case rel => exact ⟨m9 + 1, by omega, by omega, by go_num, by rw [<- NX.out], HYY.out⟩
           case measure => simp [intOf]; omega
         ·skip
          intro vs W2 hall hBW;have e15 : vs 15 = .bool (hm && nb) := hall 15 (by decide);simp only [gT, qA2, qA8, qA7, gP];rw [e15];generalize vs 0 = y0, vs 1 = y1, vs 2 = y2, vs 3 = y3, vs 4 = y4, vs 5 = y5, vs 6 = y6, vs 7 = y7, vs 8 = y8, vs 9 = y9, vs 10 = y10, vs 11 = y11, vs 12 = y12, vs 13 = y13, vs 14 = y14;have HWW := hid (HWY.out.trans (hBW.mono HWY.out.size));have HYY := hid (HY.out.trans (hBW.mono HY.out.size));clear hall hBW e15;obtain rfl : hm = false := HHM.out;simp only [Bool.false_and];have NX := hid (NX0.out rfl);go_wp2_with fail
          go_at_call 89
          refine (HAM.out W2 HWW.out).mono ?_;rintro en w9 ⟨rfl, rfl⟩;go_wp2_with fail
          go_roundw
          case rel => exact ⟨m9 + 1, by omega, by omega, by go_num, by rw [<- NX.out], HYY.out⟩
          case measure => simp [intOf]; omega
        ·obtain rfl : N = m9 := by omega
         have k1 : ¬ (N : Int) < (N : Int) := by omega
         have KG := hid (show k = St.kindK I0 (nmQ L) (obQ L) (cmpQ L) S N n from HK9.out.trans KGO.out.symm);have how := OWY.out;unfold Own at how;rw [<- HOS.out] at how;have OW5 := hid how;clear how;have RL := hid (qCL (enc := qBG) (size := 2) qBV [(k, (n : Int))] wy 61 (by show 1 <= 1000; decide));go_wp2_with (at_builtin; refine qAT (P := Tryz.prog) _ rfl _ _ 43 rfl w.heap.size 61 _ _ 2 _ (by rfl) (by rfl) (by rfl) (by rfl) (by rfl) (by rfl) (by decide) qBV qIK _ ol (os.flatMap qBG) rfl (World.ownsRow.alloc OW5.out _) _ (some ⟨wy.heap.size, 0, none⟩) 1 [(k, (n : Int))] 1 rfl rfl RL.out (by have := HOL.out; simp; omega) (by decide) (by have := HWY.out.size; simp; omega) ?_; intro v2 w9 ho2 hg2 hv2; have O9 := hid ho2; have G9 := hid hg2; obtain ⟨A2, c2, rfl⟩ := qAF ho2; clear ho2 hg2 hv2)
         go_roundw
         case rel => exact ⟨n + 1, os ++ [(k, (n : Int))], by omega, by go_num, YES.out _ KG.out, by have := HLE.out; simp; omega, (by have h9 := O9.out; refine Own.snoc ?_; rw [<- HOS.out]; simpa using h9), (HWY.out.alloc HWY.out.size _).grown G9.out (by have := HWY.out.size; simp; omega) (fun k e => (World.ownsRow.lt OW5.out k e).1)⟩
         case measure => simp [intOf]; omega
      ·have NOT := hid (NOT.out (by rw [decide_eq_true hnI]));clear YES;go_wp2_with fail
       go_roundw
       case rel => exact ⟨n + 1, os, by omega, by go_num, hid NOT.out, by have := HLE.out; omega, (by unfold Own; rw [<- HOS.out]; exact OW.out), HB.out⟩
       case measure => simp [intOf]; omega
     ·have j2 : ¬ (n : Int) < (I0 : Int) := by omega
      cases cin
      ·have NOT := hid (NOT.out (by rw [decide_eq_false hnI]));clear YES;go_wp2_with fail
       go_roundw
       case rel => exact ⟨n + 1, os, by omega, by go_num, hid NOT.out, by have := HLE.out; omega, (by unfold Own; rw [<- HOS.out]; exact OW.out), HB.out⟩
       case measure => simp [intOf]; omega
      ·have YES := hid (YES.out (by rw [decide_eq_false hnI]; rfl));have CON := hid (CON.out (by omega));obtain ⟨kd, hkd⟩ : ∃ kd, kd = St.comesK I0 (nmQ L) (obQ L) (cmpQ L) S n := ⟨_, rfl⟩;rw [<- hkd] at CON;have KG := hid (show kd = St.kindK I0 (nmQ L) (obQ L) (cmpQ L) S N n from by rw [hkd]; unfold St.kindK; rw [if_neg hnI]);unfold Pk.val at CON;clear NOT hkd;have e9 : ∀ m u, x.cells[m]? = some u -> wx.cell? ⟨b, o + n * 15 + m, none⟩ = some u := CXN.out wx bR;have e0_ : wx.cell? ⟨b, o + n * 15, none⟩ = some (.string x.name) := e9 0 _ rfl;have e1_ : wx.cell? ⟨b, o + n * 15 + 1, none⟩ = some (.int .i64 x.epoch) := e9 1 _ rfl;have e2_ : wx.cell? ⟨b, o + n * 15 + 2, none⟩ = some (.string x.ver) := e9 2 _ rfl;have e3_ : wx.cell? ⟨b, o + n * 15 + 3, none⟩ = some (.string x.rel) := e9 3 _ rfl;have e4_ : wx.cell? ⟨b, o + n * 15 + 4, none⟩ = some (.int .u8 x.arch) := e9 4 _ rfl;have e5_ : wx.cell? ⟨b, o + n * 15 + 5, none⟩ = some (.string x.vendor) := e9 5 _ rfl;have e6_ : wx.cell? ⟨b, o + n * 15 + 6, none⟩ = some (.slice x.provA x.prov.length x.provC) := e9 6 _ rfl;have e7_ : wx.cell? ⟨b, o + n * 15 + 7, none⟩ = some (.slice x.reqA x.req.length x.reqC) := e9 7 _ rfl;have e8_ : wx.cell? ⟨b, o + n * 15 + 8, none⟩ = some (.slice x.conA x.con.length x.conC) := e9 8 _ rfl;have e9_ : wx.cell? ⟨b, o + n * 15 + 9, none⟩ = some (.slice x.obsA x.obs.length x.obsC) := e9 9 _ rfl;have e10_ : wx.cell? ⟨b, o + n * 15 + 10, none⟩ = some (.slice x.rcmA x.rcm.length x.rcmC) := e9 10 _ rfl;have e11_ : wx.cell? ⟨b, o + n * 15 + 11, none⟩ = some (.slice x.supA x.sup.length x.supC) := e9 11 _ rfl;have e12_ : wx.cell? ⟨b, o + n * 15 + 12, none⟩ = some (.slice x.sugA x.sug.length x.sugC) := e9 12 _ rfl;have e13_ : wx.cell? ⟨b, o + n * 15 + 13, none⟩ = some (.slice x.enhA x.enh.length x.enhC) := e9 13 _ rfl;have e14_ : wx.cell? ⟨b, o + n * 15 + 14, none⟩ = some (.slice x.filesA x.files.length x.filesC) := e9 14 _ rfl;clear e9;have j0 : (0 : Int) <= (n : Int) := by omega
       have BA := hid (HB.out.alloc HB.out.size (.cells #[.string x.name, .int .i64 x.epoch, .string x.ver, .string x.rel, .int .u8 x.arch, .string x.vendor, .slice x.provA x.prov.length x.provC, .slice x.reqA x.req.length x.reqC, .slice x.conA x.con.length x.conC, .slice x.obsA x.obs.length x.obsC, .slice x.rcmA x.rcm.length x.rcmC, .slice x.supA x.sup.length x.supC, .slice x.sugA x.sug.length x.sugC, .slice x.enhA x.enh.length x.enhC, .slice x.filesA x.files.length x.filesC] 28));have PA := hid (PkAt.new wx x);have OW5 := hid (World.ownsRow.alloc OW.out (.cells #[.string x.name, .int .i64 x.epoch, .string x.ver, .string x.rel, .int .u8 x.arch, .string x.vendor, .slice x.provA x.prov.length x.provC, .slice x.reqA x.req.length x.reqC, .slice x.conA x.con.length x.conC, .slice x.obsA x.obs.length x.obsC, .slice x.rcmA x.rcm.length x.rcmC, .slice x.supA x.sup.length x.supC, .slice x.sugA x.sug.length x.sugC, .slice x.enhA x.enh.length x.enhC, .slice x.filesA x.files.length x.filesC] 28));have BXA := hid ((Below.refl wx.heap.size wx).alloc lR (.cells #[.string x.name, .int .i64 x.epoch, .string x.ver, .string x.rel, .int .u8 x.arch, .string x.vendor, .slice x.provA x.prov.length x.provC, .slice x.reqA x.req.length x.reqC, .slice x.conA x.con.length x.conC, .slice x.obsA x.obs.length x.obsC, .slice x.rcmA x.rcm.length x.rcmC, .slice x.supA x.sup.length x.supC, .slice x.sugA x.sug.length x.sugC, .slice x.enhA x.enh.length x.enhC, .slice x.filesA x.files.length x.filesC] 28));have c0' := (BXA.out.cell (p := ⟨Q, 0, none⟩) QL.out).trans C0.out;have c1' := (BXA.out.cell (p := ⟨Q, 1, none⟩) QL.out).trans C1.out;go_wp2_with (refine qBO (by rfl) 28 (.tmp 10) (.tmp 52) (by rfl) wx _ _ (by rfl) wx.heap.size (by rfl) (by rfl) (by rfl) (by kernel_rfl) (by rfl) (by rfl) ?_)
       go_at_call 90
       refine (CON.out _ BA.out).mono ?_;rintro en w6 ⟨rfl, h6⟩;have B6 := hid (BA.out.trans (h6.mono BA.out.size));have how := Own.below (enc := qBG) (l := os) (e := 61) (v := .slice VA ol vc) (size := 2) (base := w.heap.size) (by unfold Own; rw [<- HOS.out]; exact OW5.out) h6 lR;unfold Own at how;rw [<- HOS.out] at how;have OW5 := hid how;clear e0_ e1_ e2_ e3_ e4_ e5_ e6_ e7_ e8_ e9_ e10_ e11_ e12_ e13_ e14_ c0 c1 c0' c1' h6 how;have RL := hid (qCL (enc := qBG) (size := 2) qBV [(kd, (n : Int))] w6 61 (by show 1 <= 1000; decide));go_wp2_with (at_builtin; refine qAT (P := Tryz.prog) _ rfl _ _ 43 rfl w.heap.size 61 _ _ 2 _ (by rfl) (by rfl) (by rfl) (by rfl) (by rfl) (by rfl) (by decide) qBV qIK _ ol (os.flatMap qBG) rfl (World.ownsRow.alloc OW5.out _) _ (some ⟨w6.heap.size, 0, none⟩) 1 [(kd, (n : Int))] 1 rfl rfl RL.out (by have := HOL.out; simp; omega) (by decide) (by have := B6.out.size; simp; omega) ?_; intro v2 w9 ho2 hg2 hv2; have O9 := hid ho2; have G9 := hid hg2; obtain ⟨A2, c2, rfl⟩ := qAF ho2; clear ho2 hg2 hv2)
       go_roundw
       case rel => exact ⟨n + 1, os ++ [(kd, (n : Int))], by omega, by go_num, YES.out _ KG.out, by have := HLE.out; simp; omega, (by have h9 := O9.out; refine Own.snoc ?_; rw [<- HOS.out]; simpa using h9), (B6.out.alloc B6.out.size _).grown G9.out (by have := B6.out.size; simp; omega) (fun k e => (World.ownsRow.lt OW5.out k e).1)⟩
       case measure => simp [intOf]; omega
    ·obtain rfl : N = n := by omega
     have j1 : ¬ (N : Int) < (N : Int) := by omega
     have HF := hid (show Own qBG 2 w.heap.size 61 (.slice VA ol vc) (qEA L I0 S) wx from by rw [RS.out, <- HSO.out]; unfold Own; rw [<- HOS.out]; exact OW.out);go_wp2_with fail
     go_ret2
     exact ⟨_, rfl, HF.out, HB.out⟩
