/- R30A -/
import Derived.Test.YteobmfpbgnmffaaGreatDoorT27
import Derived.Test.YteobmfpbgnmffaaGreatDoorT33
set_option linter.unusedVariables false
set_option maxHeartbeats 16000000
set_option maxRecDepth 100000
open Go.Lib (hid)
set_option linter.unusedSimpArgs false
namespace Go.Proofs.YteobmfpbgnmffaaGreatDoor
open Go.RowKit Go.Shelf
theorem qVM {B : Nat} {A : Option Addr} {c : Nat} {D : List Int} {W : World} (h : Rd encI 1 B A c D W) {k : Nat} (hk : k < D.length) : ∃ b o, A = some ⟨b, o, none⟩ /\ b < B /\ W.cell? ⟨b, o + k, none⟩ = some (.int .i64 D[k]) := by
 obtain ⟨b, o, e, hb, hc⟩ := h.cells hk;have := hc 0 _ rfl;rw [Nat.mul_one] at this;exact ⟨b, o, e, hb, this⟩
theorem qLY (A : Option Addr) (c : Nat) (D : List Int) (x : Int) (w : World) (hD : D.length <= 1000000) (h : Rd encI 1 w.heap.size A c D w) : Calls Tryz.prog 89 #[.slice A D.length c, .int .i64 x] w fun e w' => e = .returned (.bool (D.contains x)) /\ w = w' := by
 have H := hid h;obtain ⟨n, hn⟩ : ∃ n, n = D.length := ⟨_, rfl⟩;rw [<- hn] at hD |-;have HN := hid hn;obtain ⟨r, hr⟩ : ∃ r, r = D.contains x := ⟨_, rfl⟩;rw [<- hr];have RR := hid hr;clear h hn hr
 go_enter Tryz.func89, Tryz.ntmps89
 go_wp2
 go_loop [5] (fun iv => ∃ k : Nat, k <= n /\ iv = .int .i64 (k : Int) /\ Hid (∀ j (hj : j < D.length), j < k -> D[j] ≠ x)) (fun iv => n - (intOf iv).toNat)
 case atStart => exact ⟨0, by omega, rfl, hid (by intro j hj h; omega)⟩
 case round =>
  obtain ⟨k, hk, rfl, HS⟩ := hrel;by_cases hlt : k < n
  ·have hkl : k < D.length := by have := HN.out; omega
   obtain ⟨b, o, hA, hb, e0⟩ := qVM H.out hkl;have HM := hid (show D[k] ∈ D from List.getElem_mem hkl);have HNX := hid (fun (h : D[k] ≠ x) => show ∀ j (hj : j < D.length), j < k + 1 -> D[j] ≠ x from fun j hj hjk => by
    by_cases e : j = k
    ·subst e; exact h
    ·exact HS.out j hj (by omega))
   subst hA;generalize D[k] = y at *;have i0 : (0 : Int) <= (k : Int) := by omega
   have i1 : (k : Int) < (n : Int) := by omega
   clear hkl;by_cases hy : y = x
   ·have HE := hid (show D.contains x = true from List.contains_iff_mem.2 (hy ▸ HM.out));subst hy;go_wp2
    go_ret;obtain rfl := RR.out.trans HE.out;exact ⟨rfl, rfl⟩
   ·go_wp2
    go_round
    case rel => exact ⟨k + 1, by omega, by go_num, hid (HNX.out hy)⟩
    case measure => simp [intOf]; omega
  ·obtain rfl : k = n := by omega
   have HE := hid (show D.contains x = false by
    rw [Bool.eq_false_iff];intro hc;obtain ⟨j, hj, hjx⟩ := List.getElem_of_mem (List.contains_iff_mem.1 hc);exact HS.out j hj (by have := HN.out; omega) hjx)
   have i1 : ¬ (k : Int) < (k : Int) := by omega
   go_wp2
   go_ret;obtain rfl := RR.out.trans HE.out;exact ⟨rfl, rfl⟩
theorem qHF (k : Int) (w : World) : Calls Tryz.prog 32 #[.int .u8 k] w fun e w' => e = .returned (.bool (qBA k)) /\ w = w' := by
 by_cases h1 : 1 <= k
 ·go_enter Tryz.func32, Tryz.ntmps32
  go_wp2_with fail
  go_ret;exact ⟨by simp [qBA, h1], rfl⟩
 ·go_enter Tryz.func32, Tryz.ntmps32
  go_wp2_with fail
  go_ret;exact ⟨by simp [qBA, h1]; intro h; omega, rfl⟩
theorem qJM (k : Int) (w : World) : Calls Tryz.prog 34 #[.int .u8 k] w fun e w' => e = .returned (.bool (qBT k)) /\ w = w' := by
 by_cases h1 : 6 <= k
 ·go_enter Tryz.func34, Tryz.ntmps34
  go_wp2_with fail
  go_ret;exact ⟨by simp [qBT, h1], rfl⟩
 ·go_enter Tryz.func34, Tryz.ntmps34
  go_wp2_with fail
  go_ret;exact ⟨by simp [qBT, h1]; intro h; omega, rfl⟩
structure RPool (Q : Nat) (I : Int) (L : List Pk) (W : World) : Prop where
 at_ : RPoolAt Q I L W
 may : ∀ q ∈ L, mayP q = true
theorem RPool.then {Q : Nat} {I : Int} {L : List Pk} {W W' : World} (h : RPool Q I L W) (hb : Below W.heap.size W W') : RPool Q I L W' := ⟨h.at_.then hb, h.may⟩
theorem qKW {Q : Nat} {I : Int} {L : List Pk} (i : Int) (w : World) (hp : RPool Q I L w) (hn : L.length <= 1000000) : Calls Tryz.prog 88 #[.pointer (some ⟨Q, 0, none⟩), .int .i64 i] w fun e w' => e = .returned (.bool (decide (0 <= i /\ i < (L.length : Int)))) /\ w = w' := by
 obtain ⟨A, c, c0, _⟩ := hp.at_.c0;generalize L.length = n at *;clear hp;by_cases h1 : 0 <= i
 ·by_cases h2 : i < (n : Int)
  ·rw [decide_eq_true ⟨h1, h2⟩]
   go_enter Tryz.func88, Tryz.ntmps88
   go_wp2_with fail
   go_ret;exact ⟨rfl, rfl⟩
  ·rw [decide_eq_false (fun h => h2 h.2)]
   go_enter Tryz.func88, Tryz.ntmps88
   go_wp2_with fail
   go_ret;exact ⟨rfl, rfl⟩
 ·rw [decide_eq_false (fun h => h1 h.1)]
  go_enter Tryz.func88, Tryz.ntmps88
  go_wp2_with fail
  go_ret;exact ⟨rfl, rfl⟩
theorem qSW (p : Pk) (w : World) : Calls Tryz.prog 216 #[.string p.name, .agg #[.int .i64 p.epoch, .string p.ver, .string p.rel]] w fun r w' => r = .returned p.ownD.val /\ Below w.heap.size w w' := by
 have h := qPM p.name p.evr w;unfold Evr.val Pk.evr at h;dsimp only at h;rw [qBX, qBX] at h;unfold Pk.ownD Dp.val Pk.evr;dsimp only;rw [qBX, qBX, qBX];exact h
theorem qMZ (p : Pk) (w : World) : Calls Tryz.prog 207 #[p.val] w fun r w' => r = .returned p.ownD.val /\ Below w.heap.size w w' := by
 have D := hid (fun W => qSW p W);unfold Pk.val
 go_enter Tryz.func207, Tryz.ntmps207
 go_wp2_with fail
 go_at_call 216
 refine (D.out _).mono ?_;rintro e w2 ⟨rfl, h⟩;have hb := ((Below.refl w.heap.size w).alloc lR (.cells #[.string p.name, .int .i64 p.epoch, .string p.ver, .string p.rel, .int .u8 p.arch, .string p.vendor, .slice p.provA p.prov.length p.provC, .slice p.reqA p.req.length p.reqC, .slice p.conA p.con.length p.conC, .slice p.obsA p.obs.length p.obsC, .slice p.rcmA p.rcm.length p.rcmC, .slice p.supA p.sup.length p.supC, .slice p.sugA p.sug.length p.sugC, .slice p.enhA p.enh.length p.enhC, .slice p.filesA p.files.length p.filesC] 28)).alloc (by simp) (.cells #[.string ⟨#[]⟩, .int .u8 0, .int .i64 0, .string ⟨#[]⟩, .string ⟨#[]⟩] 37);have hB := hb.trans (h.mono hb.size);have z0 : w2.cell? ⟨w.heap.size + 1, 0, none⟩ = some (.string ⟨#[]⟩) := (h.cell (p := ⟨w.heap.size + 1, 0, none⟩) (by simp)).trans ((World.cell?_alloc_at _ _ _ _ (by simp)).trans rfl);have f0 : w2.frozen? ⟨w.heap.size + 1, 0, none⟩ = false := (h.frozen (p := ⟨w.heap.size + 1, 0, none⟩) (by simp)).trans (World.frozen?_alloc_at _ _ _ _ (by simp));have z1 : w2.cell? ⟨w.heap.size + 1, 1, none⟩ = some (.int .u8 0) := (h.cell (p := ⟨w.heap.size + 1, 1, none⟩) (by simp)).trans ((World.cell?_alloc_at _ _ _ _ (by simp)).trans rfl);have f1 : w2.frozen? ⟨w.heap.size + 1, 1, none⟩ = false := (h.frozen (p := ⟨w.heap.size + 1, 1, none⟩) (by simp)).trans (World.frozen?_alloc_at _ _ _ _ (by simp));have z2 : w2.cell? ⟨w.heap.size + 1, 2, none⟩ = some (.int .i64 0) := (h.cell (p := ⟨w.heap.size + 1, 2, none⟩) (by simp)).trans ((World.cell?_alloc_at _ _ _ _ (by simp)).trans rfl);have f2 : w2.frozen? ⟨w.heap.size + 1, 2, none⟩ = false := (h.frozen (p := ⟨w.heap.size + 1, 2, none⟩) (by simp)).trans (World.frozen?_alloc_at _ _ _ _ (by simp));have z3 : w2.cell? ⟨w.heap.size + 1, 3, none⟩ = some (.string ⟨#[]⟩) := (h.cell (p := ⟨w.heap.size + 1, 3, none⟩) (by simp)).trans ((World.cell?_alloc_at _ _ _ _ (by simp)).trans rfl);have f3 : w2.frozen? ⟨w.heap.size + 1, 3, none⟩ = false := (h.frozen (p := ⟨w.heap.size + 1, 3, none⟩) (by simp)).trans (World.frozen?_alloc_at _ _ _ _ (by simp));have z4 : w2.cell? ⟨w.heap.size + 1, 4, none⟩ = some (.string ⟨#[]⟩) := (h.cell (p := ⟨w.heap.size + 1, 4, none⟩) (by simp)).trans ((World.cell?_alloc_at _ _ _ _ (by simp)).trans rfl);have f4 : w2.frozen? ⟨w.heap.size + 1, 4, none⟩ = false := (h.frozen (p := ⟨w.heap.size + 1, 4, none⟩) (by simp)).trans (World.frozen?_alloc_at _ _ _ _ (by simp));have S := qLX (W := w2) (r := w.heap.size + 1) (fun i hi => match i, hi with | 0, _ => ⟨_, z0⟩ | 1, _ => ⟨_, z1⟩ | 2, _ => ⟨_, z2⟩ | 3, _ => ⟨_, z3⟩ | 4, _ => ⟨_, z4⟩) (.string (bs p.name.toList)) (.int .u8 2) (.int .i64 p.epoch) (.string (bs p.ver.toList)) (.string (bs p.rel.toList));dsimp only at S;clear h hb D;unfold Pk.ownD Dp.val Pk.evr;dsimp only;obtain ⟨s0, s1, s2, s3, s4, hS⟩ := S;go_wp2_with fail
 exact bodyPost_ret (v := .agg #[.string (bs p.name.toList), .int .u8 2, .int .i64 p.epoch, .string (bs p.ver.toList), .string (bs p.rel.toList)]) (by simp [results, Tryz.results207, go_sem, s0, s1, s2, s3, s4]) rfl ⟨rfl, hS (by simp) hB⟩
def qGW (b0 b1 : Nat) (s0 s1 : ByteArray) (i : Nat) (v : Value) (W : World) : Prop := match i with
 | 0 => v = .pointer (some ⟨b1, 0, none⟩)
 | 1 => v = .string s0
 | 2 => v = .pointer (some ⟨b0, 0, none⟩)
 | 3 => v = .string s1
 | 4 | 5 => v = .bool false
 | 6 | 7 | 8 | 9 => v = undef
 | 10 | 11 => v = .bool false
 | _ => False
theorem qNU (b0 b1 : Nat) (s0 s1 : ByteArray) : ∀ i v w w', qGW b0 b1 s0 s1 i v w -> Below w.heap.size w w' -> qGW b0 b1 s0 s1 i v w' := by
 intro i v w w' h _
 match i, h with
 | 0, h | 1, h | 2, h | 3, h | 4, h | 5, h | 6, h | 7, h | 8, h | 9, h | 10, h | 11, h => exact h
 | (i + 12), h => exact h.elim
theorem qIT (p : Pk) (d : Dp) (w : World) (ho : p.evr.ok) (hd : d.evr.ok) : Calls Tryz.prog 180 #[p.val, d.val] w fun r w' => r = .returned (.bool (qAP p.ownD d)) /\ Below w.heap.size w w' := by
 have sd := qA4 d.name;by_cases hn : p.name.toList = d.name
 ·have OW := hid (fun W => qMZ p W);have ME := hid (fun W => qPA p.ownD d W ho hd);have e : qAP p.ownD d = qFB p.ownD d := by unfold qAP; rw [show p.ownD.name = d.name from hn]; simp
  rw [e];have q1 : ((bs d.name).toList == p.name.toList) = true := by rw [sd, hn]; simp
  have q2 : (bs d.name).toList = p.name.toList := by rw [sd, hn]
  generalize qFB p.ownD d = r at *;clear e hn sd;unfold Pk.val Pk.ownD Dp.val Pk.evr at *;dsimp only at OW ME |-;have S0 := qQS p d w;dsimp only at S0
  go_enter Tryz.func180, Tryz.ntmps180
  go_wp2_with fail
  generalize ((w.alloc (.cells #[.string p.name, .int .i64 p.epoch, .string p.ver, .string p.rel, .int .u8 p.arch, .string p.vendor, .slice p.provA p.prov.length p.provC, .slice p.reqA p.req.length p.reqC, .slice p.conA p.con.length p.conC, .slice p.obsA p.obs.length p.obsC, .slice p.rcmA p.rcm.length p.rcmC, .slice p.supA p.sup.length p.supC, .slice p.sugA p.sug.length p.sugC, .slice p.enhA p.enh.length p.enhC, .slice p.filesA p.files.length p.filesC] 28)).alloc (.cells #[.string (bs d.name), .int .u8 d.op, .int .i64 d.evr.epoch, .string (bs d.evr.ver), .string (bs d.evr.rel)] 37)) = W at *;generalize hn : w.heap.size = n at *;obtain ⟨c0_0, c0_1, c0_2, c0_3, c0_4, c0_5, c0_6, c0_7, c0_8, c0_9, c0_10, c0_11, c0_12, c0_13, c0_14, c1_0, c1_1, c1_2, c1_3, c1_4, l0, l1, hB⟩ := id S0
  go_region_held3 (fun W => W.cell? ⟨n, 0, none⟩ = some (.string p.name) /\ W.cell? ⟨n, 1, none⟩ = some (.int .i64 p.epoch) /\ W.cell? ⟨n, 2, none⟩ = some (.string p.ver) /\ W.cell? ⟨n, 3, none⟩ = some (.string p.rel) /\ W.cell? ⟨n, 4, none⟩ = some (.int .u8 p.arch) /\ W.cell? ⟨n, 5, none⟩ = some (.string p.vendor) /\ W.cell? ⟨n, 6, none⟩ = some (.slice p.provA p.prov.length p.provC) /\ W.cell? ⟨n, 7, none⟩ = some (.slice p.reqA p.req.length p.reqC) /\ W.cell? ⟨n, 8, none⟩ = some (.slice p.conA p.con.length p.conC) /\ W.cell? ⟨n, 9, none⟩ = some (.slice p.obsA p.obs.length p.obsC) /\ W.cell? ⟨n, 10, none⟩ = some (.slice p.rcmA p.rcm.length p.rcmC) /\ W.cell? ⟨n, 11, none⟩ = some (.slice p.supA p.sup.length p.supC) /\ W.cell? ⟨n, 12, none⟩ = some (.slice p.sugA p.sug.length p.sugC) /\ W.cell? ⟨n, 13, none⟩ = some (.slice p.enhA p.enh.length p.enhC) /\ W.cell? ⟨n, 14, none⟩ = some (.slice p.filesA p.files.length p.filesC) /\ W.cell? ⟨(n + 1), 0, none⟩ = some (.string (bs d.name)) /\ W.cell? ⟨(n + 1), 1, none⟩ = some (.int .u8 d.op) /\ W.cell? ⟨(n + 1), 2, none⟩ = some (.int .i64 d.evr.epoch) /\ W.cell? ⟨(n + 1), 3, none⟩ = some (.string (bs d.evr.ver)) /\ W.cell? ⟨(n + 1), 4, none⟩ = some (.string (bs d.evr.rel)) /\ n < W.heap.size /\ (n + 1) < W.heap.size /\ Below n w W) (first | exact qR7 (by assumption) hbb | exact ⟨c0_0, c0_1, c0_2, c0_3, c0_4, c0_5, c0_6, c0_7, c0_8, c0_9, c0_10, c0_11, c0_12, c0_13, c0_14, c1_0, c1_1, c1_2, c1_3, c1_4, l0, l1, hB.drew⟩ | go_keep) (first | (go_at_call 207; refine (OW.out _).mono ?_; rintro e w' ⟨rfl, hbb⟩) | (go_at_call 191; refine (ME.out _).mono ?_; rintro e w' ⟨rfl, hbb⟩))
  rename_i hh
  have hB2 := qOP hh;go_wp2
  go_ret;exact ⟨rfl, by rw [hn]; exact hB2⟩
 ·have e : qAP p.ownD d = false := by unfold qAP; rw [show (p.ownD.name == d.name) = false from beq_eq_false_iff_ne.2 hn]; rfl
  rw [e];have q1 : ((bs d.name).toList == p.name.toList) = false := by rw [sd]; exact beq_eq_false_iff_ne.2 fun h => hn h.symm
  have q2 : ¬ (bs d.name).toList = p.name.toList := by rw [sd]; exact fun h => hn h.symm
  have S0 := qQS p d w;dsimp only at S0;unfold Pk.val Dp.val
  go_enter Tryz.func180, Tryz.ntmps180
  go_wp2_with fail
  generalize ((w.alloc (.cells #[.string p.name, .int .i64 p.epoch, .string p.ver, .string p.rel, .int .u8 p.arch, .string p.vendor, .slice p.provA p.prov.length p.provC, .slice p.reqA p.req.length p.reqC, .slice p.conA p.con.length p.conC, .slice p.obsA p.obs.length p.obsC, .slice p.rcmA p.rcm.length p.rcmC, .slice p.supA p.sup.length p.supC, .slice p.sugA p.sug.length p.sugC, .slice p.enhA p.enh.length p.enhC, .slice p.filesA p.files.length p.filesC] 28)).alloc (.cells #[.string (bs d.name), .int .u8 d.op, .int .i64 d.evr.epoch, .string (bs d.evr.ver), .string (bs d.evr.rel)] 37)) = V at *;obtain ⟨c0_0, c0_1, c0_2, c0_3, c0_4, c0_5, c0_6, c0_7, c0_8, c0_9, c0_10, c0_11, c0_12, c0_13, c0_14, c1_0, c1_1, c1_2, c1_3, c1_4, l0, l1, hB⟩ := S0;have C0 := hid c0_0;have C1 := hid c1_0;have L0 := hid l0;have L1 := hid l1;have Q1 := hid q1;have Q2 := hid q2;have HB := hid hB;clear c0_0 c0_1 c0_2 c0_3 c0_4 c0_5 c0_6 c0_7 c0_8 c0_9 c0_10 c0_11 c0_12 c0_13 c0_14 c1_0 c1_1 c1_2 c1_3 c1_4 l0 l1 hB q1 q2 e hn sd;generalize bs d.name = s0 at *;refine qAE (PP := qGW w.heap.size (w.heap.size + 1) s0 p.name) 12 rfl (by kernel_rfl) (by kernel_rfl) (by decide) (by decide) (qNU w.heap.size (w.heap.size + 1) s0 p.name) (fun ii => match ii with | 11 => .bool false | _ => undef) (by simp [qA2, gQ]) ?_ ?_
  ·intro i o vs W hi ho he hBW K hK;simp only [gT, qA2, gQ] at hK |-;have C0W := hid ((hBW.cell (p := ⟨w.heap.size, 0, none⟩) L0.out).trans C0.out);have C1W := hid ((hBW.cell (p := ⟨w.heap.size + 1, 0, none⟩) L1.out).trans C1.out);obtain rfl | rfl | rfl | rfl | rfl | rfl | rfl | rfl | rfl | rfl | rfl | rfl := c12_ hi <;> simp only [gE] at ho <;> subst ho
   ·rw [if_pos (by rfl)];simp only [gQ] at hK;have HK := hid hK;clear hK he hi hBW;go_simp;exact HK.out _ _ (by first | rfl | simp [qGW]) bR
   ·have e0 : vs 0 = _ := he ⟨0, .data⟩ (by simp) rfl;rw [e0] at hK |-;rw [if_pos (by rfl)];simp only [gQ] at hK;have HK := hid hK;clear hK he hi hBW;have cc := C1W.out;go_simp;exact HK.out _ _ rfl bR
   ·rw [if_pos (by rfl)];simp only [gQ] at hK;have HK := hid hK;clear hK he hi hBW;go_simp;exact HK.out _ _ (by first | rfl | simp [qGW]) bR
   ·have e2 : vs 2 = _ := he ⟨2, .data⟩ (by simp) rfl;rw [e2] at hK |-;rw [if_pos (by rfl)];simp only [gQ] at hK;have HK := hid hK;clear hK he hi hBW;have cc := C0W.out;go_simp;exact HK.out _ _ rfl bR
   ·have e1 : vs 1 = _ := he ⟨1, .data⟩ (by simp) rfl;rw [e1] at hK |-;have e3 : vs 3 = _ := he ⟨3, .data⟩ (by simp) rfl;rw [e3] at hK |-;rw [if_pos (by rfl)];simp only [gQ] at hK;have HK := hid hK;clear hK he hi hBW;have q1 := Q1.out;have q2 := Q2.out;go_simp;exact HK.out _ _ (by simp [qGW, q1, q2]) bR
   ·have e4 : vs 4 = _ := he ⟨4, .data⟩ (by simp) rfl;rw [e4] at hK |-;rw [if_pos (by rfl)];simp only [gQ] at hK;have HK := hid hK;clear hK he hi hBW;go_simp;exact HK.out _ _ (by first | rfl | simp [qGW]) bR
   iterate 4 ·have e5 : vs 5 = _ := he ⟨5, .guard⟩ (by simp) rfl;rw [e5] at hK |-;refine wN bF ?_;exact hK _ _ rfl bR
   ·have e5 : vs 5 = _ := he ⟨5, .data⟩ (by simp) rfl;rw [e5] at hK |-;rw [if_pos (by rfl)];simp only [gQ] at hK;have HK := hid hK;clear hK he hi hBW;go_simp;exact HK.out _ _ (by first | rfl | simp [qGW]) bR
   ·have e10 : vs 10 = _ := he ⟨10, .data⟩ (by simp) rfl;rw [e10] at hK |-;rw [if_pos (by rfl)];simp only [gQ] at hK;have HK := hid hK;clear hK he hi hBW;go_simp;exact HK.out _ _ (by first | rfl | simp [qGW]) bR
  ·intro vs W2 hall hBW;have e11 : vs 11 = .bool false := (hall 11 (by decide) : qGW w.heap.size (w.heap.size + 1) s0 p.name 11 (vs 11) W2);simp only [gT, qA2, qA8, qA7, gP];rw [e11];generalize vs 0 = y0, vs 1 = y1, vs 2 = y2, vs 3 = y3, vs 4 = y4, vs 5 = y5, vs 6 = y6, vs 7 = y7, vs 8 = y8, vs 9 = y9, vs 10 = y10;have BW2 := hid (HB.out.trans (hBW.mono (Nat.le_of_lt L0.out)));clear hall hBW e11;go_wp2_with fail
   go_ret;exact ⟨rfl, BW2.out⟩
def qKJ (b0 b o n c i9 : Nat) (q : Pk) (d : Dp) (m : Bool) (i : Nat) (v : Value) (W : World) : Prop := match i with
 | 0 => v = .agg #[.string q.name, .int .i64 q.epoch, .string q.ver, .string q.rel, .int .u8 q.arch, .string q.vendor, .slice q.provA q.prov.length q.provC, .slice q.reqA q.req.length q.reqC, .slice q.conA q.con.length q.conC, .slice q.obsA q.obs.length q.obsC, .slice q.rcmA q.rcm.length q.rcmC, .slice q.supA q.sup.length q.supC, .slice q.sugA q.sug.length q.sugC, .slice q.enhA q.enh.length q.enhC, .slice q.filesA q.files.length q.filesC]
 | 1 => v = .pointer (some ⟨b0, 9, none⟩)
 | 2 => v = .slice (some ⟨b, o, none⟩) n c
 | 3 => v = .int .i64 (i9 : Int)
 | 4 => v = .pointer (some ⟨b, o + i9 * 5, none⟩)
 | 5 => v = .agg #[.string (bs d.name), .int .u8 d.op, .int .i64 d.evr.epoch, .string (bs d.evr.ver), .string (bs d.evr.rel)]
 | 6 => v = .bool m
 | _ => False
theorem qNS (b0 b o n c i9 : Nat) (q : Pk) (d : Dp) (m : Bool) : ∀ i v w w', qKJ b0 b o n c i9 q d m i v w -> Below w.heap.size w w' -> qKJ b0 b o n c i9 q d m i v w' := by
 intro i v w w' h _
 match i, h with
 | 0, h | 1, h | 2, h | 3, h | 4, h | 5, h | 6, h => exact h
 | (i + 7), h => exact h.elim
theorem qNQ (p q : Pk) (w : World) (hL : p.Laid w.heap.size w) (sm : p.small) (ho : q.evr.ok) : Calls Tryz.prog 135 #[p.val, q.val] w fun r w' => r = .returned (.bool (p.obs.any fun d => qAP q.ownD d)) /\ Below w.heap.size w w' := by
 have FR := hid hL.obs;have SM := hid sm;have NDA := hid (fun (d : Dp) (hd : d.evr.ok) W => qIT q d W ho hd);obtain ⟨n, hn⟩ : ∃ n, n = p.obs.length := ⟨_, rfl⟩;have HN := hid hn;obtain ⟨r, hr⟩ : ∃ r, r = p.obs.any (fun d => qAP q.ownD d) := ⟨_, rfl⟩;rw [<- hr];have RR := hid hr;have hn1 : n <= 1000000 := by have := sm.obsN; omega
 have PA0 := hid ((PkAt.new w p).calls (bR.alloc lR (.cells #[.string q.name, .int .i64 q.epoch, .string q.ver, .string q.rel, .int .u8 q.arch, .string q.vendor, .slice q.provA q.prov.length q.provC, .slice q.reqA q.req.length q.reqC, .slice q.conA q.con.length q.conC, .slice q.obsA q.obs.length q.obsC, .slice q.rcmA q.rcm.length q.rcmC, .slice q.supA q.sup.length q.supC, .slice q.sugA q.sug.length q.sugC, .slice q.enhA q.enh.length q.enhC, .slice q.filesA q.files.length q.filesC] 28)));have QA0 := hid (PkAt.new (w.alloc (.cells #[.string p.name, .int .i64 p.epoch, .string p.ver, .string p.rel, .int .u8 p.arch, .string p.vendor, .slice p.provA p.prov.length p.provC, .slice p.reqA p.req.length p.reqC, .slice p.conA p.con.length p.conC, .slice p.obsA p.obs.length p.obsC, .slice p.rcmA p.rcm.length p.rcmC, .slice p.supA p.sup.length p.supC, .slice p.sugA p.sug.length p.sugC, .slice p.enhA p.enh.length p.enhC, .slice p.filesA p.files.length p.filesC] 28)) q);rw [show (w.alloc (.cells #[.string p.name, .int .i64 p.epoch, .string p.ver, .string p.rel, .int .u8 p.arch, .string p.vendor, .slice p.provA p.prov.length p.provC, .slice p.reqA p.req.length p.reqC, .slice p.conA p.con.length p.conC, .slice p.obsA p.obs.length p.obsC, .slice p.rcmA p.rcm.length p.rcmC, .slice p.supA p.sup.length p.supC, .slice p.sugA p.sug.length p.sugC, .slice p.enhA p.enh.length p.enhC, .slice p.filesA p.files.length p.filesC] 28)).heap.size = w.heap.size + 1 by simp] at QA0;have B0 := hid (((Below.refl w.heap.size w).alloc lR (.cells #[.string p.name, .int .i64 p.epoch, .string p.ver, .string p.rel, .int .u8 p.arch, .string p.vendor, .slice p.provA p.prov.length p.provC, .slice p.reqA p.req.length p.reqC, .slice p.conA p.con.length p.conC, .slice p.obsA p.obs.length p.obsC, .slice p.rcmA p.rcm.length p.rcmC, .slice p.supA p.sup.length p.supC, .slice p.sugA p.sug.length p.sugC, .slice p.enhA p.enh.length p.enhC, .slice p.filesA p.files.length p.filesC] 28)).alloc (by simp) (.cells #[.string q.name, .int .i64 q.epoch, .string q.ver, .string q.rel, .int .u8 q.arch, .string q.vendor, .slice q.provA q.prov.length q.provC, .slice q.reqA q.req.length q.reqC, .slice q.conA q.con.length q.conC, .slice q.obsA q.obs.length q.obsC, .slice q.rcmA q.rcm.length q.rcmC, .slice q.supA q.sup.length q.supC, .slice q.sugA q.sug.length q.sugC, .slice q.enhA q.enh.length q.enhC, .slice q.filesA q.files.length q.filesC] 28));clear hL sm ho hr;unfold Pk.val at NDA |-;unfold Dp.val at NDA
 go_enter Tryz.func135, Tryz.ntmps135
 go_wp2_with fail
 generalize (w.alloc (.cells #[.string p.name, .int .i64 p.epoch, .string p.ver, .string p.rel, .int .u8 p.arch, .string p.vendor, .slice p.provA p.prov.length p.provC, .slice p.reqA p.req.length p.reqC, .slice p.conA p.con.length p.conC, .slice p.obsA p.obs.length p.obsC, .slice p.rcmA p.rcm.length p.rcmC, .slice p.supA p.sup.length p.supC, .slice p.sugA p.sug.length p.sugC, .slice p.enhA p.enh.length p.enhC, .slice p.filesA p.files.length p.filesC] 28)).alloc (.cells #[.string q.name, .int .i64 q.epoch, .string q.ver, .string q.rel, .int .u8 q.arch, .string q.vendor, .slice q.provA q.prov.length q.provC, .slice q.reqA q.req.length q.reqC, .slice q.conA q.con.length q.conC, .slice q.obsA q.obs.length q.obsC, .slice q.rcmA q.rcm.length q.rcmC, .slice q.supA q.sup.length q.supC, .slice q.sugA q.sug.length q.sugC, .slice q.enhA q.enh.length q.enhC, .slice q.filesA q.files.length q.filesC] 28) = V at *;clear hn
 go_loopw [5] (fun iv wr => ∃ i9 : Nat, i9 <= n /\ iv = .int .i64 (i9 : Int) /\ Hid (∀ j (hj : j < p.obs.length), j < i9 -> qAP q.ownD p.obs[j] = false) /\ PkAt wr w.heap.size p /\ PkAt wr (w.heap.size + 1) q /\ Below w.heap.size w wr) (fun iv _ => n - (intOf iv).toNat)
 case atStart => exact ⟨0, by omega, rfl, hid (by intro j hj h; omega), PA0.out, QA0.out, B0.out⟩
 case round =>
  obtain ⟨i9, hk, rfl, HS, hP, hQ, hB⟩ := hrel;rename World => wr
  have PA := hid hP;have QA := hid hQ;have HB := hid hB;have C9L := hid hP.1;have c9 := hP.2.2.2.2.2.2.2.2.2.2.1;rw [<- HN.out] at c9;clear hP hQ;by_cases hlt : i9 < n
  ·have hkl : i9 < p.obs.length := by have := HN.out; omega
   obtain ⟨b, o, hA, hb, e0, e1, e2, e3, e4⟩ := ((FR.out.below hB).more hB.size).dep_at hkl;have DC := hid (fun W (hb : Below wr.heap.size wr W) => show W.cell? ⟨b, o + i9 * 5, none⟩ = some (.string (bs p.obs[i9].name)) /\ W.cell? ⟨b, o + i9 * 5 + 1, none⟩ = some (.int .u8 p.obs[i9].op) /\ W.cell? ⟨b, o + i9 * 5 + 2, none⟩ = some (.int .i64 p.obs[i9].evr.epoch) /\ W.cell? ⟨b, o + i9 * 5 + 3, none⟩ = some (.string (bs p.obs[i9].evr.ver)) /\ W.cell? ⟨b, o + i9 * 5 + 4, none⟩ = some (.string (bs p.obs[i9].evr.rel)) from by
    obtain ⟨b', o', hA', _, k0, k1, k2, k3, k4⟩ := ((FR.out.below (hB.trans (hb.mono hB.size))).more (hB.trans (hb.mono hB.size)).size).dep_at hkl;rw [hA] at hA';cases hA'
    exact ⟨k0, k1, k2, k3, k4⟩)
   have ND := hid (fun W => NDA.out p.obs[i9] (qM7 (SM.out.obs _ (List.getElem_mem hkl))) W);have HYS := hid (fun (h : qAP q.ownD p.obs[i9] = true) => show p.obs.any (fun d => qAP q.ownD d) = true from List.any_eq_true.2 ⟨_, List.getElem_mem hkl, h⟩);have HNX := hid (fun (h : qAP q.ownD p.obs[i9] = false) => show ∀ j (hj : j < p.obs.length), j < i9 + 1 -> qAP q.ownD p.obs[j] = false from fun j hj hjk => by
    by_cases e : j = i9
    ·subst e; exact h
    ·exact HS.out j hj (by omega))
   have IK := hid (show (0 : Int) <= (i9 : Int) /\ (i9 : Int) < (n : Int) by omega);rw [hA] at c9;obtain ⟨c, hcc⟩ : ∃ c, c = p.obsC := ⟨_, rfl⟩;rw [<- hcc] at c9;have C9 := hid c9;generalize p.obs[i9] = d at *;obtain ⟨m, hm⟩ : ∃ m, m = qAP q.ownD d := ⟨_, rfl⟩;have HMM := hid hm;rw [<- hm] at ND;have i1 := IK.out.2;clear hm hcc hA hb hkl e0 e1 e2 e3 e4 hB;go_wp2_with fail
   clear c9 i1;refine qAE (PP := qKJ w.heap.size b o n c i9 q d m) 7 rfl (by kernel_rfl) (by kernel_rfl) (by decide) (by decide) (qNS w.heap.size b o n c i9 q d m) (fun ii => match ii with | 0 => u13 | 1 => u14 | 2 => u15 | 3 => u16 | 4 => u17 | 5 => u18 | 6 => u19 | _ => undef) (by simp [qA2, gQ]) ?_ ?_
   ·intro i o vs W hi ho he hBW K hK;simp only [gT, qA2, gQ] at hK |-;have QW := hid (QA.out.calls hBW);have C9W := hid ((hBW.cell (p := ⟨w.heap.size, 9, none⟩) C9L.out).trans C9.out);have DW := hid (DC.out W hBW);obtain rfl | rfl | rfl | rfl | rfl | rfl | rfl := c7_ hi <;> simp only [gE] at ho <;> subst ho
    ·rw [if_pos (by rfl)];simp only [gQ] at hK;have HK := hid hK;clear hK he hi hBW;obtain ⟨_, c0, c1, c2, c3, c4, c5, c6, c7, c8, c9, c10, c11, c12, c13, c14⟩ := QW.out;go_simp;exact HK.out _ _ rfl bR
    ·rw [if_pos (by rfl)];simp only [gQ] at hK;have HK := hid hK;clear hK he hi hBW;go_simp;exact HK.out _ _ (by first | rfl | simp [qKJ]) bR
    ·have e1 : vs 1 = _ := he ⟨1, .data⟩ (by simp) rfl;rw [e1] at hK |-;rw [if_pos (by rfl)];simp only [gQ] at hK;have HK := hid hK;clear hK he hi hBW;have cc := C9W.out;go_simp;exact HK.out _ _ rfl bR
    ·rw [if_pos (by rfl)];simp only [gQ] at hK;have HK := hid hK;clear hK he hi hBW;go_simp;exact HK.out _ _ (by first | rfl | simp [qKJ]) bR
    ·have e2 : vs 2 = _ := he ⟨2, .data⟩ (by simp) rfl;rw [e2] at hK |-;have e3 : vs 3 = _ := he ⟨3, .data⟩ (by simp) rfl;rw [e3] at hK |-;rw [if_pos (by rfl)];simp only [gQ] at hK;have HK := hid hK;clear hK he hi hBW;have i0 := IK.out.1;have i1 := IK.out.2;go_simp;exact HK.out _ _ (by simp [qKJ]) bR
    ·have e4 : vs 4 = _ := he ⟨4, .data⟩ (by simp) rfl;rw [e4] at hK |-;rw [if_pos (by rfl)];simp only [gQ] at hK;have HK := hid hK;clear hK he hi hBW;obtain ⟨f0, f1, f2, f3, f4⟩ := DW.out;go_simp;exact HK.out _ _ rfl bR
    ·have e0 : vs 0 = _ := he ⟨0, .data⟩ (by simp) rfl;rw [e0] at hK |-;have e5 : vs 5 = _ := he ⟨5, .data⟩ (by simp) rfl;rw [e5] at hK |-;rw [if_pos (by rfl)];simp only [gQ] at hK;have HK := hid hK;clear hK he hi hBW;go_simp;go_at_call 180
     refine (ND.out W).mono ?_;rintro en w9 ⟨rfl, h⟩;go_simp;exact HK.out _ _ rfl h
   ·intro vs W2 hall hBW;have e6 : vs 6 = .bool m := (hall 6 (by decide) : qKJ w.heap.size b o n c i9 q d m 6 (vs 6) W2);simp only [gT, qA2, qA8, qA7, gP];rw [e6];generalize vs 0 = y0, vs 1 = y1, vs 2 = y2, vs 3 = y3, vs 4 = y4, vs 5 = y5;have BW2 := hid (HB.out.trans (hBW.mono HB.out.size));have PW2 := hid (PA.out.calls hBW);have QW2 := hid (QA.out.calls hBW);clear hall hBW e6;cases m
    ·go_wp2_with fail
     go_roundw
     case rel => exact ⟨i9 + 1, by omega, by go_num, hid (HNX.out HMM.out.symm), PW2.out, QW2.out, BW2.out⟩
     case measure => simp [intOf]; omega
    ·obtain rfl : r = true := RR.out.trans (HYS.out HMM.out.symm);go_wp2_with fail
     go_ret;exact ⟨rfl, BW2.out⟩
  ·obtain rfl : i9 = n := by omega
   have i1 : ¬ (i9 : Int) < (i9 : Int) := by omega
   have HE := hid (show p.obs.any (fun d => qAP q.ownD d) = false from by
    rw [List.any_eq_false];intro x hx;obtain ⟨j, hj, rfl⟩ := List.getElem_of_mem hx;rw [HS.out j hj (by have := HN.out; omega)]; simp)
   obtain rfl : r = false := RR.out.trans HE.out;go_wp2_with fail
   go_ret;exact ⟨rfl, HB.out⟩
def qC7 (Q b o n c i9 j9 : Nat) (x y : Pk) (m : Bool) (i : Nat) (v : Value) (W : World) : Prop := match i with
 | 0 => v = .pointer (some ⟨Q, 0, none⟩)
 | 1 => v = .int .i64 (i9 : Int)
 | 2 | 3 => v = .bool true
 | 4 => v = .pointer (some ⟨Q, 0, none⟩)
 | 5 => v = .int .i64 (j9 : Int)
 | 6 | 7 | 8 => v = .bool true
 | 9 => v = .int .i64 (i9 : Int)
 | 10 => v = .int .i64 (j9 : Int)
 | 11 | 12 | 13 => v = .bool true
 | 14 => v = .pointer (some ⟨Q, 0, none⟩)
 | 15 => v = .pointer (some ⟨Q, 0, none⟩)
 | 16 => v = .pointer (some ⟨Q, 0, none⟩)
 | 17 => v = .slice (some ⟨b, o, none⟩) n c
 | 18 => v = .int .i64 (i9 : Int)
 | 19 => v = .pointer (some ⟨b, o + i9 * 15, none⟩)
 | 20 => v = .agg #[.string x.name, .int .i64 x.epoch, .string x.ver, .string x.rel, .int .u8 x.arch, .string x.vendor, .slice x.provA x.prov.length x.provC, .slice x.reqA x.req.length x.reqC, .slice x.conA x.con.length x.conC, .slice x.obsA x.obs.length x.obsC, .slice x.rcmA x.rcm.length x.rcmC, .slice x.supA x.sup.length x.supC, .slice x.sugA x.sug.length x.sugC, .slice x.enhA x.enh.length x.enhC, .slice x.filesA x.files.length x.filesC]
 | 21 => v = .pointer (some ⟨Q, 0, none⟩)
 | 22 => v = .pointer (some ⟨Q, 0, none⟩)
 | 23 => v = .pointer (some ⟨Q, 0, none⟩)
 | 24 => v = .slice (some ⟨b, o, none⟩) n c
 | 25 => v = .int .i64 (j9 : Int)
 | 26 => v = .pointer (some ⟨b, o + j9 * 15, none⟩)
 | 27 => v = .agg #[.string y.name, .int .i64 y.epoch, .string y.ver, .string y.rel, .int .u8 y.arch, .string y.vendor, .slice y.provA y.prov.length y.provC, .slice y.reqA y.req.length y.reqC, .slice y.conA y.con.length y.conC, .slice y.obsA y.obs.length y.obsC, .slice y.rcmA y.rcm.length y.rcmC, .slice y.supA y.sup.length y.supC, .slice y.sugA y.sug.length y.sugC, .slice y.enhA y.enh.length y.enhC, .slice y.filesA y.files.length y.filesC]
 | 28 => v = .bool m
 | 29 => v = .bool m
 | 30 => v = .bool m
 | _ => False
theorem qNX (Q b o n c i9 j9 : Nat) (x y : Pk) (m : Bool) : ∀ i v w w', qC7 Q b o n c i9 j9 x y m i v w -> Below w.heap.size w w' -> qC7 Q b o n c i9 j9 x y m i v w' := by
 intro i v w w' h _
 match i, h with
 | 0, h | 1, h | 2, h | 3, h | 4, h | 5, h | 6, h | 7, h | 8, h | 9, h | 10, h | 11, h | 12, h | 13, h | 14, h | 15, h | 16, h | 17, h | 18, h | 19, h | 20, h | 21, h | 22, h | 23, h | 24, h | 25, h | 26, h | 27, h | 28, h | 29, h | 30, h => exact h
 | (i + 31), h => exact h.elim
def obsQ (L : List Pk) (i j : Int) : Bool := decide (0 <= i /\ i < (L.length : Int)) && (decide (0 <= j /\ j < (L.length : Int)) && (decide (i ≠ j) && (match L[i.toNat]?, L[j.toNat]? with | some x, some y => x.obs.any fun d => qAP y.ownD d | _, _ => false)))
theorem qCO {p : Pk} (h : mayP p = true) : p.evr.ok := by
 have s := qC4 h;have h1 := s.ver;have h2 := s.rel;exact ⟨by show p.ver.toList.length <= 1000000; rw [qA3]; omega, by show p.rel.toList.length <= 1000000; rw [qA3]; omega⟩
theorem qHO {Q : Nat} {I : Int} {L : List Pk} (i9 j9 : Nat) (hil : i9 < L.length) (hjl : j9 < L.length) (hij : i9 ≠ j9) (w : World) (hp : RPool Q I L w) (hn : L.length <= 1000000) : Calls Tryz.prog 91 #[.pointer (some ⟨Q, 0, none⟩), .int .i64 (i9 : Int), .int .i64 (j9 : Int)] w fun e w' => e = .returned (.bool (obsQ L (i9 : Int) (j9 : Int))) /\ Below w.heap.size w w' := by
 have IS := hid (fun i W (h : RPool Q I L W) => qKW i W h hn);have RP := hid hp;obtain ⟨A, c, c0, hR⟩ := hp.at_.c0;have C0 := hid c0;have QL := hid hp.at_.lt;have HR := hid hR;have HL := hid hp.at_.laid;have MY := hid hp.may;obtain ⟨n, hn9⟩ : ∃ n, n = L.length := ⟨_, rfl⟩;have HN := hid hn9;have OBS := hid (show obsQ L (i9 : Int) (j9 : Int) = (decide (0 <= (i9 : Int) /\ (i9 : Int) < (n : Int)) && (decide (0 <= (j9 : Int) /\ (j9 : Int) < (n : Int)) && (decide ((i9 : Int) ≠ (j9 : Int)) && (match L[((i9 : Int)).toNat]?, L[((j9 : Int)).toNat]? with | some x, some y => x.obs.any fun d => qAP y.ownD d | _, _ => false)))) by rw [hn9]; rfl);rw [<- hn9] at IS c0 C0;clear hR hp hn9;have hi : 0 <= (i9 : Int) /\ (i9 : Int) < (n : Int) := by have := HN.out; omega
 have hj : 0 <= (j9 : Int) /\ (j9 : Int) < (n : Int) := by have := HN.out; omega
 have hne : ¬ (i9 : Int) = (j9 : Int) := by omega
 have ISI := hid (fun W (h : RPool Q I L W) => (decide_eq_true hi) ▸ IS.out (i9 : Int) W h);have ISJ := hid (fun W (h : RPool Q I L W) => (decide_eq_true hj) ▸ IS.out (j9 : Int) W h);obtain ⟨b, o, hA, hb, _⟩ := HR.out.cells hil;have CX := fun (k : Nat) (hk : k < L.length) W (hb : Below w.heap.size w W) => show ∀ m u, (L[k].cells)[m]? = some u -> W.cell? ⟨b, o + k * 15 + m, none⟩ = some u from by
  obtain ⟨b', o', e, _, hc⟩ := (HR.out.below hb).cells hk;rw [hA] at e;cases e
  exact hc
 have OB := hid (fun W (hb : Below w.heap.size w W) => qNQ L[i9] L[j9] W ((HL.out _ (List.getElem_mem hil)).calls hb) (qC4 (MY.out _ (List.getElem_mem hil))) (qCO (MY.out _ (List.getElem_mem hjl))));have CXI := CX i9 hil;have CXJ := CX j9 hjl;rw [show obsQ L (i9 : Int) (j9 : Int) = (L[i9].obs.any fun d => qAP L[j9].ownD d) by rw [OBS.out, decide_eq_true hi, decide_eq_true hj, decide_eq_true (show ((i9 : Int)) ≠ (j9 : Int) from hne)]; simp only [Int.toNat_natCast, List.getElem?_eq_getElem hil, List.getElem?_eq_getElem hjl, Bool.true_and]];have NE := hid hne;have II := hid hi;have JJ := hid hj;rw [hA] at c0 C0;obtain ⟨m, hm⟩ : ∃ m, m = (L[i9].obs.any fun d => qAP L[j9].ownD d) := ⟨_, rfl⟩;rw [<- hm] at OB |-;clear hm;generalize L[i9] = x at *;generalize L[j9] = y at *;have XC := hid (fun W (hb : Below w.heap.size w W) => show W.cell? ⟨b, o + i9 * 15, none⟩ = some (.string x.name) /\ W.cell? ⟨b, o + i9 * 15 + 1, none⟩ = some (.int .i64 x.epoch) /\ W.cell? ⟨b, o + i9 * 15 + 2, none⟩ = some (.string x.ver) /\ W.cell? ⟨b, o + i9 * 15 + 3, none⟩ = some (.string x.rel) /\ W.cell? ⟨b, o + i9 * 15 + 4, none⟩ = some (.int .u8 x.arch) /\ W.cell? ⟨b, o + i9 * 15 + 5, none⟩ = some (.string x.vendor) /\ W.cell? ⟨b, o + i9 * 15 + 6, none⟩ = some (.slice x.provA x.prov.length x.provC) /\ W.cell? ⟨b, o + i9 * 15 + 7, none⟩ = some (.slice x.reqA x.req.length x.reqC) /\ W.cell? ⟨b, o + i9 * 15 + 8, none⟩ = some (.slice x.conA x.con.length x.conC) /\ W.cell? ⟨b, o + i9 * 15 + 9, none⟩ = some (.slice x.obsA x.obs.length x.obsC) /\ W.cell? ⟨b, o + i9 * 15 + 10, none⟩ = some (.slice x.rcmA x.rcm.length x.rcmC) /\ W.cell? ⟨b, o + i9 * 15 + 11, none⟩ = some (.slice x.supA x.sup.length x.supC) /\ W.cell? ⟨b, o + i9 * 15 + 12, none⟩ = some (.slice x.sugA x.sug.length x.sugC) /\ W.cell? ⟨b, o + i9 * 15 + 13, none⟩ = some (.slice x.enhA x.enh.length x.enhC) /\ W.cell? ⟨b, o + i9 * 15 + 14, none⟩ = some (.slice x.filesA x.files.length x.filesC) from ⟨CXI W hb 0 _ rfl, CXI W hb 1 _ rfl, CXI W hb 2 _ rfl, CXI W hb 3 _ rfl, CXI W hb 4 _ rfl, CXI W hb 5 _ rfl, CXI W hb 6 _ rfl, CXI W hb 7 _ rfl, CXI W hb 8 _ rfl, CXI W hb 9 _ rfl, CXI W hb 10 _ rfl, CXI W hb 11 _ rfl, CXI W hb 12 _ rfl, CXI W hb 13 _ rfl, CXI W hb 14 _ rfl⟩);have YC := hid (fun W (hb : Below w.heap.size w W) => show W.cell? ⟨b, o + j9 * 15, none⟩ = some (.string y.name) /\ W.cell? ⟨b, o + j9 * 15 + 1, none⟩ = some (.int .i64 y.epoch) /\ W.cell? ⟨b, o + j9 * 15 + 2, none⟩ = some (.string y.ver) /\ W.cell? ⟨b, o + j9 * 15 + 3, none⟩ = some (.string y.rel) /\ W.cell? ⟨b, o + j9 * 15 + 4, none⟩ = some (.int .u8 y.arch) /\ W.cell? ⟨b, o + j9 * 15 + 5, none⟩ = some (.string y.vendor) /\ W.cell? ⟨b, o + j9 * 15 + 6, none⟩ = some (.slice y.provA y.prov.length y.provC) /\ W.cell? ⟨b, o + j9 * 15 + 7, none⟩ = some (.slice y.reqA y.req.length y.reqC) /\ W.cell? ⟨b, o + j9 * 15 + 8, none⟩ = some (.slice y.conA y.con.length y.conC) /\ W.cell? ⟨b, o + j9 * 15 + 9, none⟩ = some (.slice y.obsA y.obs.length y.obsC) /\ W.cell? ⟨b, o + j9 * 15 + 10, none⟩ = some (.slice y.rcmA y.rcm.length y.rcmC) /\ W.cell? ⟨b, o + j9 * 15 + 11, none⟩ = some (.slice y.supA y.sup.length y.supC) /\ W.cell? ⟨b, o + j9 * 15 + 12, none⟩ = some (.slice y.sugA y.sug.length y.sugC) /\ W.cell? ⟨b, o + j9 * 15 + 13, none⟩ = some (.slice y.enhA y.enh.length y.enhC) /\ W.cell? ⟨b, o + j9 * 15 + 14, none⟩ = some (.slice y.filesA y.files.length y.filesC) from ⟨CXJ W hb 0 _ rfl, CXJ W hb 1 _ rfl, CXJ W hb 2 _ rfl, CXJ W hb 3 _ rfl, CXJ W hb 4 _ rfl, CXJ W hb 5 _ rfl, CXJ W hb 6 _ rfl, CXJ W hb 7 _ rfl, CXJ W hb 8 _ rfl, CXJ W hb 9 _ rfl, CXJ W hb 10 _ rfl, CXJ W hb 11 _ rfl, CXJ W hb 12 _ rfl, CXJ W hb 13 _ rfl, CXJ W hb 14 _ rfl⟩);clear CX CXI CXJ hi hj hne hil hjl hb hA c0
 go_enter Tryz.func91, Tryz.ntmps91
 go_wp2_with fail
 refine qAE (PP := qC7 Q b o n c i9 j9 x y m) 31 rfl (by kernel_rfl) (by kernel_rfl) (by decide) (by decide) (qNX Q b o n c i9 j9 x y m) (fun ii => match ii with | 0 => undef | 1 => undef | 2 => undef | 3 => undef | 4 => undef | 5 => undef | 6 => undef | 7 => undef | 8 => undef | 9 => undef | 10 => undef | 11 => undef | 12 => undef | 13 => undef | 14 => undef | 15 => undef | 16 => undef | 17 => undef | 18 => undef | 19 => undef | 20 => undef | 21 => undef | 22 => undef | 23 => undef | 24 => undef | 25 => undef | 26 => undef | 27 => undef | 28 => undef | 29 => undef | 30 => .bool false | _ => undef) (by simp [qA2, gQ]) ?_ ?_
 ·intro i o vs W hi ho he hBW K hK;simp only [gT, qA2, gQ] at hK |-;have hBX := hid hBW;have C0W := hid ((hBW.cell (p := ⟨Q, 0, none⟩) QL.out).trans C0.out);obtain rfl | rfl | rfl | rfl | rfl | rfl | rfl | rfl | rfl | rfl | rfl | rfl | rfl | rfl | rfl | rfl | rfl | rfl | rfl | rfl | rfl | rfl | rfl | rfl | rfl | rfl | rfl | rfl | rfl | rfl | rfl := c31_ hi <;> simp only [gE] at ho <;> subst ho
  iterate 2 ·rw [if_pos (by rfl)];simp only [gQ] at hK;have HK := hid hK;clear hK he hi;go_simp;exact HK.out _ _ (by first | rfl | simp [qC7]) bR
  ·have e0 : vs 0 = _ := he ⟨0, .data⟩ (by simp) rfl;rw [e0] at hK |-;have e1 : vs 1 = _ := he ⟨1, .data⟩ (by simp) rfl;rw [e1] at hK |-;rw [if_pos (by rfl)];simp only [gQ] at hK;have HK := hid hK;clear hK he hi;go_simp;go_at_call 88
   refine (ISI.out W (RP.out.then hBX.out)).mono ?_;rintro en w9 ⟨rfl, rfl⟩;go_simp;exact HK.out _ _ rfl bR
  ·have e2 : vs 2 = _ := he ⟨2, .data⟩ (by simp) rfl;rw [e2] at hK |-;rw [if_pos (by rfl)];simp only [gQ] at hK;have HK := hid hK;clear hK he hi;go_simp;exact HK.out _ _ (by first | rfl | simp [qC7]) bR
  iterate 2 ·have e3 : vs 3 = _ := he ⟨3, .guard⟩ (by simp) rfl;rw [e3] at hK |-;rw [if_pos (by rfl)];simp only [gQ] at hK;have HK := hid hK;clear hK he hi;go_simp;exact HK.out _ _ (by first | rfl | simp [qC7]) bR
  ·have e4 : vs 4 = _ := he ⟨4, .data⟩ (by simp) rfl;rw [e4] at hK |-;have e5 : vs 5 = _ := he ⟨5, .data⟩ (by simp) rfl;rw [e5] at hK |-;have e3 : vs 3 = _ := he ⟨3, .guard⟩ (by simp) rfl;rw [e3] at hK |-;rw [if_pos (by rfl)];simp only [gQ] at hK;have HK := hid hK;clear hK he hi;go_simp;go_at_call 88
   refine (ISJ.out W (RP.out.then hBX.out)).mono ?_;rintro en w9 ⟨rfl, rfl⟩;go_simp;exact HK.out _ _ rfl bR
  ·have e3 : vs 3 = _ := he ⟨3, .data⟩ (by simp) rfl;rw [e3] at hK |-;have e6 : vs 6 = _ := he ⟨6, .data⟩ (by simp) rfl;rw [e6] at hK |-;rw [if_pos (by rfl)];simp only [gQ] at hK;have HK := hid hK;clear hK he hi;go_simp;exact HK.out _ _ (by first | rfl | simp [qC7]) bR
  ·have e7 : vs 7 = _ := he ⟨7, .data⟩ (by simp) rfl;rw [e7] at hK |-;rw [if_pos (by rfl)];simp only [gQ] at hK;have HK := hid hK;clear hK he hi;go_simp;exact HK.out _ _ (by first | rfl | simp [qC7]) bR
  iterate 2 ·have e8 : vs 8 = _ := he ⟨8, .guard⟩ (by simp) rfl;rw [e8] at hK |-;rw [if_pos (by rfl)];simp only [gQ] at hK;have HK := hid hK;clear hK he hi;go_simp;exact HK.out _ _ (by first | rfl | simp [qC7]) bR
  ·have e9 : vs 9 = _ := he ⟨9, .data⟩ (by simp) rfl;rw [e9] at hK |-;have e10 : vs 10 = _ := he ⟨10, .data⟩ (by simp) rfl;rw [e10] at hK |-;have e8 : vs 8 = _ := he ⟨8, .guard⟩ (by simp) rfl;rw [e8] at hK |-;rw [if_pos (by rfl)];simp only [gQ] at hK;have HK := hid hK;clear hK he hi;have hne := NE.out;go_simp;exact HK.out _ _ (by simp [qC7, hne]) bR
  ·have e8 : vs 8 = _ := he ⟨8, .data⟩ (by simp) rfl;rw [e8] at hK |-;have e11 : vs 11 = _ := he ⟨11, .data⟩ (by simp) rfl;rw [e11] at hK |-;rw [if_pos (by rfl)];simp only [gQ] at hK;have HK := hid hK;clear hK he hi;go_simp;exact HK.out _ _ (by first | rfl | simp [qC7]) bR
  ·have e12 : vs 12 = _ := he ⟨12, .data⟩ (by simp) rfl;rw [e12] at hK |-;rw [if_pos (by rfl)];simp only [gQ] at hK;have HK := hid hK;clear hK he hi;go_simp;exact HK.out _ _ (by first | rfl | simp [qC7]) bR
  ·have e13 : vs 13 = _ := he ⟨13, .guard⟩ (by simp) rfl;rw [e13] at hK |-;rw [if_pos (by rfl)];simp only [gQ] at hK;have HK := hid hK;clear hK he hi;go_simp;exact HK.out _ _ (by first | rfl | simp [qC7]) bR
  ·have e14 : vs 14 = _ := he ⟨14, .data⟩ (by simp) rfl;rw [e14] at hK |-;have e13 : vs 13 = _ := he ⟨13, .guard⟩ (by simp) rfl;rw [e13] at hK |-;rw [if_pos (by rfl)];simp only [gQ] at hK;have HK := hid hK;clear hK he hi;go_simp;exact HK.out _ _ (by first | rfl | simp [qC7]) bR
  ·have e15 : vs 15 = _ := he ⟨15, .data⟩ (by simp) rfl;rw [e15] at hK |-;have e13 : vs 13 = _ := he ⟨13, .guard⟩ (by simp) rfl;rw [e13] at hK |-;rw [if_pos (by rfl)];simp only [gQ] at hK;have HK := hid hK;clear hK he hi;go_simp;exact HK.out _ _ (by first | rfl | simp [qC7]) bR
  ·have e16 : vs 16 = _ := he ⟨16, .data⟩ (by simp) rfl;rw [e16] at hK |-;have e13 : vs 13 = _ := he ⟨13, .guard⟩ (by simp) rfl;rw [e13] at hK |-;rw [if_pos (by rfl)];simp only [gQ] at hK;have HK := hid hK;clear hK he hi;have cc := C0W.out;go_simp;exact HK.out _ _ rfl bR
  ·have e13 : vs 13 = _ := he ⟨13, .guard⟩ (by simp) rfl;rw [e13] at hK |-;rw [if_pos (by rfl)];simp only [gQ] at hK;have HK := hid hK;clear hK he hi;go_simp;exact HK.out _ _ (by first | rfl | simp [qC7]) bR
  ·have e17 : vs 17 = _ := he ⟨17, .data⟩ (by simp) rfl;rw [e17] at hK |-;have e18 : vs 18 = _ := he ⟨18, .data⟩ (by simp) rfl;rw [e18] at hK |-;have e13 : vs 13 = _ := he ⟨13, .guard⟩ (by simp) rfl;rw [e13] at hK |-;rw [if_pos (by rfl)];simp only [gQ] at hK;have HK := hid hK;clear hK he hi;have i0 := II.out.1;have i1 := II.out.2;go_simp;exact HK.out _ _ (by simp [qC7]) bR
  ·have e19 : vs 19 = _ := he ⟨19, .data⟩ (by simp) rfl;rw [e19] at hK |-;have e13 : vs 13 = _ := he ⟨13, .guard⟩ (by simp) rfl;rw [e13] at hK |-;rw [if_pos (by rfl)];simp only [gQ] at hK;have HK := hid hK;clear hK he hi;obtain ⟨c0, c1, c2, c3, c4, c5, c6, c7, c8, c9, c10, c11, c12, c13, c14⟩ := XC.out W hBX.out;go_simp;exact HK.out _ _ rfl bR
  ·have e13 : vs 13 = _ := he ⟨13, .guard⟩ (by simp) rfl;rw [e13] at hK |-;rw [if_pos (by rfl)];simp only [gQ] at hK;have HK := hid hK;clear hK he hi;go_simp;exact HK.out _ _ (by first | rfl | simp [qC7]) bR
  ·have e21 : vs 21 = _ := he ⟨21, .data⟩ (by simp) rfl;rw [e21] at hK |-;have e13 : vs 13 = _ := he ⟨13, .guard⟩ (by simp) rfl;rw [e13] at hK |-;rw [if_pos (by rfl)];simp only [gQ] at hK;have HK := hid hK;clear hK he hi;go_simp;exact HK.out _ _ (by first | rfl | simp [qC7]) bR
  ·have e22 : vs 22 = _ := he ⟨22, .data⟩ (by simp) rfl;rw [e22] at hK |-;have e13 : vs 13 = _ := he ⟨13, .guard⟩ (by simp) rfl;rw [e13] at hK |-;rw [if_pos (by rfl)];simp only [gQ] at hK;have HK := hid hK;clear hK he hi;go_simp;exact HK.out _ _ (by first | rfl | simp [qC7]) bR
  ·have e23 : vs 23 = _ := he ⟨23, .data⟩ (by simp) rfl;rw [e23] at hK |-;have e13 : vs 13 = _ := he ⟨13, .guard⟩ (by simp) rfl;rw [e13] at hK |-;rw [if_pos (by rfl)];simp only [gQ] at hK;have HK := hid hK;clear hK he hi;have cc := C0W.out;go_simp;exact HK.out _ _ rfl bR
  ·have e13 : vs 13 = _ := he ⟨13, .guard⟩ (by simp) rfl;rw [e13] at hK |-;rw [if_pos (by rfl)];simp only [gQ] at hK;have HK := hid hK;clear hK he hi;go_simp;exact HK.out _ _ (by first | rfl | simp [qC7]) bR
  ·have e24 : vs 24 = _ := he ⟨24, .data⟩ (by simp) rfl;rw [e24] at hK |-;have e25 : vs 25 = _ := he ⟨25, .data⟩ (by simp) rfl;rw [e25] at hK |-;have e13 : vs 13 = _ := he ⟨13, .guard⟩ (by simp) rfl;rw [e13] at hK |-;rw [if_pos (by rfl)];simp only [gQ] at hK;have HK := hid hK;clear hK he hi;have i0 := JJ.out.1;have i1 := JJ.out.2;go_simp;exact HK.out _ _ (by simp [qC7]) bR
  ·have e26 : vs 26 = _ := he ⟨26, .data⟩ (by simp) rfl;rw [e26] at hK |-;have e13 : vs 13 = _ := he ⟨13, .guard⟩ (by simp) rfl;rw [e13] at hK |-;rw [if_pos (by rfl)];simp only [gQ] at hK;have HK := hid hK;clear hK he hi;obtain ⟨c0, c1, c2, c3, c4, c5, c6, c7, c8, c9, c10, c11, c12, c13, c14⟩ := YC.out W hBX.out;go_simp;exact HK.out _ _ rfl bR
  ·have e20 : vs 20 = _ := he ⟨20, .data⟩ (by simp) rfl;rw [e20] at hK |-;have e27 : vs 27 = _ := he ⟨27, .data⟩ (by simp) rfl;rw [e27] at hK |-;have e13 : vs 13 = _ := he ⟨13, .guard⟩ (by simp) rfl;rw [e13] at hK |-;rw [if_pos (by rfl)];simp only [gQ] at hK;have HK := hid hK;clear hK he hi;have OW := OB.out W hBX.out;unfold Pk.val at OW;go_simp;go_at_call 135
   refine OW.mono ?_;rintro en w9 ⟨rfl, h⟩;go_simp;exact HK.out _ _ rfl h
  ·have e13 : vs 13 = _ := he ⟨13, .data⟩ (by simp) rfl;rw [e13] at hK |-;have e28 : vs 28 = _ := he ⟨28, .data⟩ (by simp) rfl;rw [e28] at hK |-;rw [if_pos (by rfl)];simp only [gQ] at hK;have HK := hid hK;clear hK he hi;go_simp;exact HK.out _ _ (by first | rfl | simp [qC7]) bR
  ·have e29 : vs 29 = _ := he ⟨29, .data⟩ (by simp) rfl;rw [e29] at hK |-;rw [if_pos (by rfl)];simp only [gQ] at hK;have HK := hid hK;clear hK he hi;go_simp;exact HK.out _ _ (by first | rfl | simp [qC7]) bR
 ·intro vs W2 hall hBW;have e30 : vs 30 = .bool m := (hall 30 (by decide) : qC7 Q b o n c i9 j9 x y m 30 (vs 30) W2);simp only [gT, qA2, qA8, qA7, gP];rw [e30];generalize vs 0 = y0, vs 1 = y1, vs 2 = y2, vs 3 = y3, vs 4 = y4, vs 5 = y5, vs 6 = y6, vs 7 = y7, vs 8 = y8, vs 9 = y9, vs 10 = y10, vs 11 = y11, vs 12 = y12, vs 13 = y13, vs 14 = y14, vs 15 = y15, vs 16 = y16, vs 17 = y17, vs 18 = y18, vs 19 = y19, vs 20 = y20, vs 21 = y21, vs 22 = y22, vs 23 = y23, vs 24 = y24, vs 25 = y25, vs 26 = y26, vs 27 = y27, vs 28 = y28, vs 29 = y29;have BW2 := hid hBW;clear hall hBW e30;go_wp2_with fail
  go_ret;exact ⟨rfl, BW2.out⟩
