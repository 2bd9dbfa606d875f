/- St30Wide, StTells -/
import Derived.Test.YteobmfpbgnmffaaGreatDoorT46
set_option linter.unusedVariables false
set_option maxHeartbeats 16000000
set_option maxRecDepth 100000
open Go.Lib (hid)
set_option linter.unusedSimpArgs false
namespace Go.Proofs.YteobmfpbgnmffaaGreatDoor
section
open Go.RowKit Go.Shelf
theorem qUF {w W : World} {A : Option Addr} {cap : Nat} {l : List Rp} (h : RpRow w.heap.size w A cap l) (hb : Below w.heap.size w W) {k : Nat} (hk : k < l.length) {b o : Nat} (ha : A = some ⟨b, o, none⟩) : W.cell? ⟨b, o + k * 2 + 1, none⟩ = some (.slice l[k].A l[k].pk.length l[k].c) := by
 obtain ⟨b', o', e, _, _, h2⟩ := (h.calls hb).at_ hk
 rw [ha] at e;cases e
 exact h2
theorem qNI (RA : Option Addr) (rc : Nat) (repos : List Rp) (IA : Option Addr) (ic : Nat) (ins : List Pk) (k : Int) (w : World) (hr : RpRow w.heap.size w RA rc repos) (hi : PRow w.heap.size w IA ic ins) : Calls Tryz.prog 21 #[.slice RA repos.length rc, .slice IA ins.length ic, .int .i64 k] w (qI4 repos ins k w) := by
 have HI := hid hi;have HR := hid hr;have LI := hi.1.len;have LR := hr.row.len;have mi := hi.1.1;have mr := hr.row.1;have mi2 := hi.1.2.1;have mr2 := hr.row.2.1;unfold maxLen at mi2 mr2;clear hi hr;have LG := hid (fun (p : Pk) W (h : p.Laid W.heap.size W) => qKV p W h);unfold Pk.val at LG;by_cases q0 : (30 : Int) < (repos.length : Int)
 ·go_enter Tryz.func21, Tryz.ntmps21
  go_wp2_with fail
  go_ret;exact qDQ bR
 by_cases q1 : (30 : Int) < (ins.length : Int)
 ·go_enter Tryz.func21, Tryz.ntmps21
  go_wp2_with fail
  go_ret;exact qDQ bR
 by_cases q2 : (200 : Int) < k
 ·go_enter Tryz.func21, Tryz.ntmps21
  go_wp2_with fail
  go_ret;exact qDQ bR
 obtain ⟨ni, hni⟩ : ∃ n, n = ins.length := ⟨_, rfl⟩;obtain ⟨nr, hnr⟩ : ∃ n, n = repos.length := ⟨_, rfl⟩;rw [<- hni] at q1 LI mi |-;rw [<- hnr] at q0 LR mr |-;have HNI := hid hni;have HNR := hid hnr;have Q2 := hid q2;clear hni hnr
 go_enter Tryz.func21, Tryz.ntmps21
 go_wp2_with fail
 clear q2
 go_loopw [8] (fun i wr => ∃ j : Nat, j <= ni /\ i = .int .i64 (j : Int) /\ Hid (∀ m (hm : m < ins.length), m < j -> (ins[m]).slim) /\ Below w.heap.size w wr) (fun i _ => ni - (intOf i).toNat)
 case atStart => exact ⟨0, by omega, rfl, hid (by intro m hm h; omega), Below.refl _ _⟩
 case round =>
  obtain ⟨j, hj, rfl, HS, hB⟩ := hrel;rename World => wr
  have HB := hid hB;clear hB;by_cases hlt : j < ni
  ·have hjl : j < ins.length := by have := HNI.out; omega
   obtain ⟨b, o, hadr, hbl, e0, e1, e2, e3, e4, e5, e6, e7, e8, e9, e10, e11, e12, e13, e14⟩ := (HI.out.calls HB.out).at_ hjl
   have LP := hid (LG.out ins[j] wr ((HI.out.calls HB.out).2 _ (List.getElem_mem hjl)));have HSY := hid (fun (h : (ins[j]).slim) => show ∀ m (hm : m < ins.length), m < j + 1 -> (ins[m]).slim from fun m hm hmj => by
    by_cases e : m = j
    ·subst e; exact h
    ·exact HS.out m hm (by omega))
   unfold qFG at LP;generalize ins[j] = x at *;subst hadr;have i0 : (0 : Int) <= (j : Int) := by omega
   have i1 : (j : Int) < (ni : Int) := by omega
   clear hjl;go_wp2_with fail
   go_at_call 81
   refine LP.out.mono ?_;rintro e w3 ⟨r, rfl, hs, h⟩;have HB3 := hid (HB.out.trans (h.mono HB.out.size));have HSP := hid hs;clear h hs LP e0 e1 e2 e3 e4 e5 e6 e7 e8 e9 e10 e11 e12 e13 e14;cases r
   ·go_wp2_with fail
    go_roundw
    case rel => exact ⟨j + 1, by omega, by go_num, hid (HSY.out (HSP.out (by trivial))), HB3.out⟩
    case measure => simp [intOf]; omega
   ·go_wp2_with fail
    go_ret;exact qDQ HB3.out
  ·obtain rfl : j = ni := by omega
   have SI := hid (show ∀ p ∈ ins, p.slim from fun p hp => by
    obtain ⟨m, hm, rfl⟩ := List.getElem_of_mem hp;exact HS.out m hm (by have := HNI.out; omega))
   clear HS;have i1 : ¬ (j : Int) < (j : Int) := by omega
   go_wp2_with fail
   go_loopw [7, 9] (fun n i wx => ∃ (t m : Nat), t <= nr /\ i = .int .i64 (t : Int) /\ n = .int .i64 (m : Int) /\ Hid (m = ins.length + qBK (repos.take t)) /\ (0 < t -> m <= 50) /\ m <= 50 /\ Hid (∀ u (hu : u < repos.length), u < t -> ∀ p ∈ (repos[u]).pk, p.slim) /\ Below w.heap.size w wx) (fun _ i _ => nr - (intOf i).toNat)
   case atStart => exact ⟨0, j, by omega, rfl, rfl, hid (by rw [HNI.out]; simp [qBK]), by omega, by omega, hid (by intro u hu h; omega), HB.out⟩
   case round =>
    obtain ⟨t, m, ht, rfl, rfl, HM, _, hm50, HS, hB⟩ := hrel;rename World => wx
    have HX := hid hB;clear hB HB;by_cases hlt2 : t < nr
    ·have htl : t < repos.length := by have := HNR.out; omega
     obtain ⟨b, o, hadr, hbl, d0, d1⟩ := (HR.out.calls HX.out).at_ htl
     have DD := hid (fun W (h : Below w.heap.size w W) => qUF HR.out h htl hadr);have PR := hid (HR.out.pks _ (List.getElem_mem htl));have HM2 := hid (show m + (repos[t]).pk.length = ins.length + qBK (repos.take (t + 1)) by rw [qBZ repos t htl, HM.out]; omega);have hpl := HR.out.cnt _ (List.getElem_mem htl);have HSY := hid (fun (h : ∀ p ∈ (repos[t]).pk, p.slim) => show ∀ u (hu : u < repos.length), u < t + 1 -> ∀ p ∈ (repos[u]).pk, p.slim from fun u hu hut => by
      by_cases e : u = t
      ·subst e; exact h
      ·exact HS.out u hu (by omega))
     generalize repos[t] = r at *;obtain ⟨np, hnp⟩ : ∃ np, np = r.pk.length := ⟨_, rfl⟩;rw [<- hnp] at d1 hpl HM2;have HNP := hid hnp;have HAD := hid hadr;subst hadr;clear hnp htl HAD;have i0 : (0 : Int) <= (t : Int) := by omega
     have i2 : (t : Int) < (nr : Int) := by omega
     by_cases hw : (50 : Int) < (m : Int) + (np : Int)
     ·go_wp2_with fail
      go_ret;exact qDQ HX.out
     ·go_wp2_with fail
      go_loopw [10] (fun i wy => ∃ v : Nat, v <= np /\ i = .int .i64 (v : Int) /\ Hid (∀ u (hu : u < r.pk.length), u < v -> (r.pk[u]).slim) /\ Below w.heap.size w wy) (fun i _ => np - (intOf i).toNat)
      case atStart => exact ⟨0, by omega, rfl, hid (by intro u hu h; omega), HX.out⟩
      case round =>
       obtain ⟨v, hv, rfl, HV, hB⟩ := hrel;rename World => wy
       have HY := hid hB;clear hB;have dd1 : wy.cell? ⟨b, o + t * 2 + 1, none⟩ = some (.slice r.A np r.c) := by
        have h1 := HNP.out;exact (DD.out wy HY.out).trans (by rw [h1])
       by_cases hlt3 : v < np
       ·have hvl : v < r.pk.length := by have := HNP.out; omega
        obtain ⟨b', o', hadr', hbl', e0, e1, e2, e3, e4, e5, e6, e7, e8, e9, e10, e11, e12, e13, e14⟩ := (PR.out.calls HY.out).at_ hvl
        have LP := hid (LG.out r.pk[v] wy ((PR.out.calls HY.out).2 _ (List.getElem_mem hvl)));have HVY := hid (fun (h : (r.pk[v]).slim) => show ∀ u (hu : u < r.pk.length), u < v + 1 -> (r.pk[u]).slim from fun u hu huv => by
         by_cases e : u = v
         ·subst e; exact h
         ·exact HV.out u hu (by omega))
        unfold qFG at LP;generalize r.pk[v] = x at *;rw [hadr'] at dd1;clear hadr';have j0 : (0 : Int) <= (v : Int) := by omega
        have j1 : (v : Int) < (np : Int) := by omega
        clear hvl;go_wp2_with fail
        go_at_call 81
        refine LP.out.mono ?_;rintro e w3 ⟨r9, rfl, hs, h⟩;have HB3 := hid (HY.out.trans (h.mono HY.out.size));have HSP := hid hs;clear h hs LP e0 e1 e2 e3 e4 e5 e6 e7 e8 e9 e10 e11 e12 e13 e14 dd1;cases r9
        ·go_wp2_with fail
         go_roundw
         case rel => exact ⟨v + 1, by omega, by go_num, hid (HVY.out (HSP.out (by trivial))), HB3.out⟩
         case measure => simp [intOf]; omega
        ·go_wp2_with fail
         go_ret;exact qDQ HB3.out
       ·obtain rfl : v = np := by omega
        have SR := hid (show ∀ p ∈ r.pk, p.slim from fun p hp => by
         obtain ⟨u, hu, rfl⟩ := List.getElem_of_mem hp;exact HV.out u hu (by have := HNP.out; omega))
        have j1 : ¬ (v : Int) < (v : Int) := by omega
        clear HV;go_wp2_with fail
        go_roundw
        case rel => exact ⟨t + 1, m + v, by omega, by go_num, by go_num, HM2, by omega, by omega, hid (HSY.out SR.out), HY.out⟩
        case measure => simp [intOf]; omega
    ·obtain rfl : t = nr := by omega
     have i2 : ¬ (t : Int) < (t : Int) := by omega
     have NW := hid (show Narrow repos ins k from ⟨by have := HNR.out; omega, by have := HNI.out; omega, by have := Q2.out; omega, SI.out, fun r hr p hp => by
      obtain ⟨u, hu, rfl⟩ := List.getElem_of_mem hr;exact HS.out u hu (by have := HNR.out; omega) p hp, by
      have h1 := HM.out;rw [List.take_of_length_le (by have := HNR.out; omega)] at h1;omega⟩)
     clear HM HS SI;go_wp2_with fail
     go_ret;exact ⟨false, rfl, fun _ => NW.out, HX.out⟩
end
section
open Go.RowKit Go.Shelf
theorem qOC {α : Type} {enc : α -> List Value} {size : Nat} (he : ∀ x, (enc x).length = size) (l : List α) (W : World) (t : TypeId) (hl : l.length <= 1000) : Own enc size W.heap.size t (.slice (some ⟨W.heap.size, 0, none⟩) l.length l.length) l (W.alloc (.cells (l.flatMap enc).toArray t)) :=
 ⟨qEB enc size he l, .inr ⟨W.heap.size, l.length, (l.flatMap enc).toArray, rfl, Nat.le_refl _, World.alloc_heap_new W _, Nat.le_refl _, by unfold maxLen; omega, by simpa using qEB enc size he l, by show (l.flatMap enc).take (l.length * size) = _; rw [<- qEB enc size he l, List.take_length]⟩⟩
theorem qO5 {L : List Pr} {I0 : Nat} {S : List Int} (hI : I0 <= L.length) (h : L.length <= 100) : (qBY L I0 S).length <= 100 := by
 cases hb : badS L.length S
 ·rw [qN7 hI hb];have := qUQ (I0 := I0) (S := S) L.length;omega
 ·rw [qDT hb]; exact Nat.zero_le _
theorem qOH {N I0 : Nat} {T : List (Int × Int)} (h : N <= 100) : (qAR N I0 T).length <= 100 := by
 unfold qAR;split
 ·have := qIF (n := N) (ins := I0) (T.map fun x => x.2);omega
 ·exact Nat.zero_le _
theorem qMC {α : Type} {enc : α -> List Value} {size base : Nat} {e : TypeId} {A : Option Addr} {n c : Nat} {l : List α} {W : World} (he : ∀ x, (enc x).length = size) (h : Own enc size base e (.slice A n c) l W) : Rd enc size W.heap.size A c l W := by
 obtain ⟨A', c', e, hr⟩ := h.rd he;simp only [Value.slice.injEq] at e;obtain ⟨rfl, _, rfl⟩ := e;exact hr
theorem qGX (w : World) (hI : PkIn w) (RA : Option Addr) (rc : Nat) (repos : List Rp) (hr : RpRow w.heap.size w RA rc repos) (hrq : ∀ r ∈ repos, ∀ p ∈ r.pk, PkQ w p) (IA : Option Addr) (ic : Nat) (ins : List Pk) (hi : PRow w.heap.size w IA ic ins) (hiq : ∀ p ∈ ins, PkQ w p) (A : Option Addr) (c : Nat) (S : List Int) (hS : Rd encI 1 w.heap.size A c S w /\ (∀ z ∈ S, (Lit.int .i64 z).wf = true) /\ S.length <= 1000000000000000) (B : Option Addr) (cb : Nat) (T : List (Int × Int)) (hT : Rd qBG 2 w.heap.size B cb T w /\ T.length <= 1000000000000000) (kind : Int) (hkd : (Lit.int .u8 kind).wf = true) : Calls Tryz.prog 4 #[.slice RA repos.length rc, .slice IA ins.length ic, .slice A S.length c, .slice B T.length cb, .int .u8 kind] w fun e w' => e = .returned (.bool true) /\ Below w.heap.size w w' := by
 obtain ⟨hS, hSw, hSl⟩ := hS;obtain ⟨hT, hTl⟩ := hT;obtain ⟨m, hm9⟩ : ∃ m, S.length = m := ⟨_, rfl⟩;have HM := hid hm9;obtain ⟨tn, htn9⟩ : ∃ m, T.length = m := ⟨_, rfl⟩;have HTN := hid htn9;have hm1 : m <= 1000000000000000 := by omega
 have ht1 : tn <= 1000000000000000 := by omega
 obtain ⟨nr, hnr9⟩ : ∃ n, repos.length = n := ⟨_, rfl⟩;obtain ⟨I0, hI09⟩ : ∃ n, ins.length = n := ⟨_, rfl⟩;have WD := hid (show Calls Tryz.prog 21 #[.slice RA nr rc, .slice IA I0 ic, .int .i64 ((m : Int) + (tn : Int))] w (qI4 repos ins ((m : Int) + (tn : Int)) w) from hnr9 ▸ hI09 ▸ qNI RA rc repos IA ic ins ((m : Int) + (tn : Int)) w hr hi);have AW := hid (fun W (hb : Below w.heap.size w W) => qU0 W (hI.below hb));have MD := hid (fun (k : Int) (hn : Narrow repos ins k) W (hb : Below w.heap.size w W) => show Calls Tryz.prog 23 #[.slice RA nr rc, .slice IA I0 ic] W (qPC repos ins W) from hnr9 ▸ hI09 ▸ qKT (w0 := w) (hI.below hb) (hr.calls hb) (hi.calls hb) hn hrq hiq);have ME := hid (fun (k : Int) (hn : Narrow repos ins k) W (hb : Below w.heap.size w W) => show Calls Tryz.prog 24 #[.slice RA nr rc, .slice IA I0 ic] W (qPB repos ins W) from hnr9 ▸ hI09 ▸ qKM (w0 := w) (hr.calls hb) (hi.calls hb) hn hrq hiq);have HS := hid hS;have HT := hid hT;have HI0 := hid hI09;rw [hnr9, hI09, hm9, htn9];clear hI hr hrq hi hiq hS hT hSw hSl hTl hm9 htn9 hnr9 hI09
 go_enter Tryz.func4, Tryz.ntmps4
 go_wp2_with fail
 go_at_call 21
 refine WD.out.mono ?_;rintro e w1 ⟨r, rfl, hn, hb1⟩;have B1 := hid hb1;have AW1 := AW.out w1 hb1;have HNR := hid hn;clear hb1 hn WD;cases r
 rotate_left
 ·go_wp2_with fail
  go_at_call 22
  refine AW1.mono ?_;rintro e w2 ⟨rfl, hb2⟩;have B2 := hid (B1.out.trans (hb2.mono B1.out.size));clear hb2 B1 AW MD ME;go_wp2_with fail
  go_ret;exact ⟨rfl, B2.out⟩
 have NW := hid (HNR.out rfl);clear HNR AW1;have hm2 : m <= 200 := by have := NW.out.nk; omega
 have ht2 : tn <= 200 := by have := NW.out.nk; omega
 go_wp2_with fail
 go_at_call 23
 refine (MD.out _ NW.out w1 B1.out).mono ?_;clear MD;rintro e w3 ⟨h3, hb3⟩;have BW3 := hid (B1.out.trans (hb3.mono B1.out.size));clear hb3 B1;rcases h3 with ⟨he0, P, L, rfl, hp3, hal, hl1, hl2⟩ | ⟨hne, rfl⟩
 rotate_left
 ·have HNE := hid hne;obtain ⟨er, her⟩ : ∃ er, qB8 repos ins = er := ⟨_, rfl⟩;have HER := hid her;rw [her] at hne |-;clear her;go_wp2_with fail
  go_at_call 24
  refine (ME.out _ NW.out w3 BW3.out).mono ?_;clear ME;rintro e w4 ⟨h4, hb4⟩;have BW4 := hid (BW3.out.trans (hb4.mono BW3.out.size));clear hb4 BW3;rcases h4 with ⟨he0, _⟩ | ⟨_, rfl⟩
  ·exact absurd he0 HNE.out
  ·rw [HER.out];have AW4 := AW.out w4 BW4.out;clear HER HNE NW;go_wp2_with fail
   go_at_call 22
   refine AW4.mono ?_;rintro e w5 ⟨rfl, hb5⟩;have BW5 := hid (BW4.out.trans (hb5.mono BW4.out.size));clear hb5;go_wp2_with fail
   go_ret;exact ⟨rfl, BW5.out⟩
 have HE0 := hid he0;rw [HI0.out] at hp3 hl1;have PL := hid hp3;have HAL := hid hal;have HL1 := hid hl1;have HL2 := hid hl2;clear hp3 hl1 hl2 hal he0;go_wp2_with fail
 go_at_call 24
 refine (ME.out _ NW.out w3 BW3.out).mono ?_;clear ME NW;rintro e w4 ⟨h4, hb4⟩;have B34 := hid hb4;have BW4 := hid (BW3.out.trans (hb4.mono BW3.out.size));clear hb4 BW3;rcases h4 with ⟨_, Q, L', rfl, hq4, hal'⟩ | ⟨hne, _⟩
 rotate_left
 ·exact absurd HE0.out hne
 rw [HI0.out] at hq4;have QL := hid hq4;have PL4 := hid (PL.out.then B34.out);have HEQ := hid (fun S => qP6 HAL.out hal' I0 HL1.out S);have HLL := hid (show L'.length = L.length from hal'.1.trans HAL.out.1.symm);clear hq4 hal' HAL HE0 PL B34 HI0;have HS4 := hid ((HS.out.below BW4.out).more BW4.out.size);have HT4 := hid ((HT.out.below BW4.out).more BW4.out.size);have AW4 := hid (fun W (hb : Below w4.heap.size w4 W) => AW.out W (BW4.out.trans (hb.mono BW4.out.size)));clear AW HS HT;have HS5 := hid (HS4.out.below ((Below.refl w4.heap.size w4).alloc lR (.cells #[] 3)));have HOW := hid (show Own encI 1 w4.heap.size 3 (.slice (some ⟨w4.heap.size, 0, none⟩) 0 0) [] (w4.alloc (.cells #[] 3)) from qOC (enc := encI) (size := 1) (fun _ => rfl) [] w4 3 (by simp));go_wp2_with (at_builtin; refine qAT (P := Tryz.prog) _ rfl _ _ 42 rfl w4.heap.size 3 _ _ 1 _ (by rfl) (by rfl) (by rfl) (by rfl) (by rfl) (by rfl) (by decide) (fun _ => rfl) qDW _ 0 _ rfl HOW.out _ A c S m HM.out.symm rfl HS5.out (by have := HM.out; omega) (by decide) (by simp) ?_; intro v2 w5 ho2 hg2 hv2; refine Hid.out ?_)
 refine hid ?_;have hO : Own encI 1 w4.heap.size 3 v2 S w5 := by
  unfold Own
  simpa using ho2
 have B45 := hid (((Below.refl w4.heap.size w4).alloc lR (.cells #[] 3)).grown hg2 (by simp) (fun j hj => (World.ownsRow.lt HOW.out j hj).1));obtain ⟨KA, kc, rfl, hk5⟩ := hO.rd (fun _ => rfl);rw [HM.out];have KR := hid hk5;clear hO hk5 ho2 hg2 hv2 HOW HS5;go_wp2_with fail
 have K4 := hid (show w4.heap.size <= w5.heap.size from B45.out.size)
 go_loopw [16] (fun iv wr => ∃ i : Nat, i <= 2 /\ iv = .int .i64 (i : Int) /\ Below w5.heap.size w5 wr) (fun iv _ => 2 - (intOf iv).toNat)
 case atStart => exact ⟨0, by omega, rfl, Below.refl _ _⟩
 case round =>
  obtain ⟨i, hi, rfl, hB⟩ := hrel;rename World => wr
  have HB := hid hB;have B4 := hid (B45.out.trans (hB.mono K4.out));clear hB;by_cases hlt : i < 2
  ·have i1 : (i : Int) < 2 := by omega
   have OF := hid (HM.out ▸ qMH (PL4.out.then B4.out) A c S ((HS4.out.below B4.out).more B4.out.size) (by have := HM.out; omega) (by have := HL2.out; omega) HL1.out);obtain ⟨N, hN⟩ : ∃ N, L.length = N := ⟨_, rfl⟩;have HN := hid hN;obtain ⟨er, her⟩ : ∃ er : Int, (if badS N S then 5 else 0) = er := ⟨_, rfl⟩;obtain ⟨ea, hea⟩ : ∃ ea : Int, qAZ N I0 T = ea := ⟨_, rfl⟩;have HER := hid her;have HEA := hid hea;rw [hN, her] at OF;clear hN her hea;go_wp2_with fail
   go_at_call 25
   refine OF.out.mono ?_;rintro e w6 ⟨v6, rfl, ho6, hb6⟩;have B46 := hid (B4.out.trans (hb6.mono B4.out.size));have BR6 := hid hb6;have O6 := hid ho6;obtain ⟨A6, c6, rfl⟩ := qAF ho6;clear hb6 ho6 OF;have OG := hid (HM.out ▸ qQQ A c S w6 (QL.out.then B46.out) ((HS4.out.below B46.out).more B46.out.size) (by have := HM.out; omega) (by have := HL1.out; have := HLL.out; omega) (by have := HL2.out; have := HLL.out; omega));rw [HLL.out, HN.out, HER.out, <- HEQ.out S] at OG;go_wp2_with fail
   go_at_call 26
   refine OG.out.mono ?_;rintro e w7 ⟨v7, rfl, ho7, hb7⟩;have B47 := hid (B46.out.trans (hb7.mono B46.out.size));have BR7 := hid (BR6.out.trans (hb7.mono BR6.out.size));have B67 := hid hb7;have O7 := hid ho7;obtain ⟨A7, c7, rfl⟩ := qAF ho7;clear hb7 ho7 OG;have AP := hid (HTN.out ▸ qFV (PL4.out.then B47.out) B cb T ((HT4.out.below B47.out).more B47.out.size) (by have := HTN.out; omega) (by have := HL2.out; omega) HL1.out);rw [HN.out, HEA.out] at AP;go_wp2_with fail
   go_at_call 27
   refine AP.out.mono ?_;rintro e w8 ⟨v8, rfl, ho8, hb8⟩;have B48 := hid (B47.out.trans (hb8.mono B47.out.size));have BR8 := hid (BR7.out.trans (hb8.mono BR7.out.size));have B78 := hid hb8;have O8 := hid ho8;obtain ⟨A8, c8, rfl⟩ := qAF ho8;clear hb8 ho8 AP;have AQ := hid (HTN.out ▸ qJE (QL.out.then B48.out) B cb T ((HT4.out.below B48.out).more B48.out.size) (by have := HTN.out; omega) (by have := HL2.out; have := HLL.out; omega) (by have := HL1.out; have := HLL.out; omega));rw [HLL.out, HN.out, HEA.out] at AQ;go_wp2_with fail
   go_at_call 28
   refine AQ.out.mono ?_;rintro e w9 ⟨v9, rfl, ho9, hb9⟩;have BR9 := hid (BR8.out.trans (hb9.mono BR8.out.size));have B89 := hid hb9;have O9 := hid ho9;obtain ⟨A9, c9, rfl⟩ := qAF ho9;clear hb9 ho9 AQ;have B79 := hid (B78.out.trans (B89.out.mono B78.out.size));have B69 := hid (B67.out.trans (B79.out.mono B67.out.size));have LS := hid (show (qBY L I0 S).length <= 100 from qO5 HL1.out HL2.out);have LA := hid (show (qAR N I0 T).length <= 100 from qOH (by have := HN.out; have := HL2.out; omega));obtain ⟨SV, hSV⟩ : ∃ SV, qBY L I0 S = SV := ⟨_, rfl⟩;obtain ⟨AV, hAV⟩ : ∃ AV, qAR N I0 T = AV := ⟨_, rfl⟩;rw [hSV] at O6 O7 LS |-;rw [hAV] at O8 O9 LA |-;clear hSV hAV;obtain ⟨an, han⟩ : ∃ an, SV.length = an := ⟨_, rfl⟩;obtain ⟨cn, hcn⟩ : ∃ cn, AV.length = cn := ⟨_, rfl⟩;have HAN := hid han;have HCN := hid hcn;rw [han] at O6 O7 LS |-;rw [hcn] at O8 O9 LA |-;have hla : an <= 100 := LS.out;have hlc : cn <= 100 := LA.out;have R6 := hid (qMC (fun x => qBV x) (O6.out.below B69.out lR));have R7 := hid (qMC (fun x => qBV x) (O7.out.below B79.out lR));have R8 := hid (qMC (enc := encI) (size := 1) (fun _ => rfl) (O8.out.below B89.out lR));have R9 := hid (qMC (enc := encI) (size := 1) (fun _ => rfl) O9.out);have SM := hid (han ▸ qEV A6 A7 c6 c7 SV SV w9 (by omega) (by omega) R6.out R7.out);rw [decide_eq_true rfl] at SM;have NU := hid (fun W (hb : Below w9.heap.size w9 W) => hcn ▸ qD8 A8 A9 c8 c9 AV AV W (by omega) (by omega) ((R8.out.below hb).more hb.size) ((R9.out.below hb).more hb.size));rw [decide_eq_true rfl] at NU;clear han hcn;go_wp2_with fail
   go_at_call 29
   refine SM.out.mono ?_;rintro e wa ⟨rfl, hba⟩;have B9A := hid hba;clear hba;go_wp2_with fail
   go_at_call 30
   refine (NU.out wa B9A.out).mono ?_;rintro e wb ⟨rfl, hbb⟩;have B9B := hid (B9A.out.trans (hbb.mono B9A.out.size));clear hbb;have BRB := hid (BR9.out.trans (B9B.out.mono BR9.out.size));have B6B := hid (B69.out.trans (B9B.out.mono B69.out.size));have B8B := hid (B89.out.trans (B9B.out.mono B89.out.size));have P6 := hid (show wb.ownsRow wr.heap.size 61 2 (.slice A6 an c6) an (SV.flatMap qBG) from by have h := O6.out.below B6B.out lR; unfold Own at h; rw [HAN.out] at h; exact h);have P8 := hid (show wb.ownsRow w7.heap.size 3 1 (.slice A8 cn c8) cn (AV.flatMap encI) from by have h := O8.out.below B8B.out lR; unfold Own at h; rw [HCN.out] at h; exact h);have G6 := hid (show an = 0 \/ ∃ g, A6 = some ⟨g, 0, none⟩ /\ wr.heap.size <= g /\ g < w7.heap.size from by
    have h := O6.out;unfold Own at h;rw [HAN.out] at h;rcases qQY h with h | ⟨g, cap, e, h1, h2⟩
    ·exact .inl h
    ·simp only [Value.slice.injEq] at e;exact .inr ⟨g, e.1, h1, Nat.lt_of_lt_of_le h2 B67.out.size⟩)
   have G8 := hid (show cn = 0 \/ ∃ g, A8 = some ⟨g, 0, none⟩ /\ w7.heap.size <= g from by
    have h := O8.out;unfold Own at h;rw [HCN.out] at h;rcases qQY h with h | ⟨g, cap, e, h1, h2⟩
    ·exact .inl h
    ·simp only [Value.slice.injEq] at e;exact .inr ⟨g, e.1, h1⟩)
   have R7S := hid (show wr.heap.size <= w7.heap.size from BR7.out.size);clear O6 O7 O8 O9 R6 R7 R8 R9 SM NU B46 B47 B48 BR6 BR7 BR8 BR9 B67 B78 B89 B79 B69 B9A B9B B6B B8B HAN HCN LS LA HER HEA;go_wp2_with fail
   go_loopw [25] (fun kv wx => ∃ (k : Nat) (xs ys : List Value), k <= an /\ kv = .int .i64 (k : Int) /\ wx.ownsRow wr.heap.size 61 2 (.slice A6 an c6) an xs /\ wx.ownsRow w7.heap.size 3 1 (.slice A8 cn c8) cn ys /\ Below wr.heap.size wr wx) (fun kv _ => an - (intOf kv).toNat)
   case atStart => exact ⟨0, _, _, Nat.zero_le _, rfl, P6.out, P8.out, BRB.out⟩
   case round =>
    obtain ⟨k, xs, ys, hk, rfl, hx, hy, hBx⟩ := hrel;rename World => wx
    have HX := hid hx;have HY := hid hy;have BX := hid hBx;clear hx hy hBx P6 P8 BRB;by_cases hlk : k < an
    ·have k0 : (0 : Int) <= (k : Int) := by omega
     have k1 : (k : Int) < (an : Int) := by omega
     rcases G6.out with h0 | ⟨g, rfl, hg1, hg2⟩
     ·omega
     obtain ⟨u9, hc, hf⟩ := qMK HX.out (k := k * 2 + 1) (by omega);have NX := hid (qCE HX.out (k * 2 + 1) (.int .i64 (-7)));have NY := hid (qTF (k := k * 2 + 1) (u := .int .i64 (-7)) HY.out hg2);have NB := hid (show Below wr.heap.size wr (wx.setCell ⟨g, k * 2 + 1, none⟩ (.int .i64 (-7))) from BX.out.setCell hg1 _);clear HX HY BX hg1 hg2;go_wp2_with fail
     go_roundw
     case rel => exact ⟨k + 1, _, _, by omega, by go_num, NX.out, NY.out, NB.out⟩
     case measure => simp [intOf]; omega
    ·obtain rfl : k = an := by omega
     have k1 : ¬ (k : Int) < (k : Int) := by omega
     clear G6 HX;go_wp2_with fail
     go_loopw [26] (fun kv wy => ∃ (q : Nat) (ys : List Value), q <= cn /\ kv = .int .i64 (q : Int) /\ wy.ownsRow w7.heap.size 3 1 (.slice A8 cn c8) cn ys /\ Below wr.heap.size wr wy) (fun kv _ => cn - (intOf kv).toNat)
     case atStart => exact ⟨0, _, Nat.zero_le _, rfl, HY.out, BX.out⟩
     case round =>
      obtain ⟨q, ys, hq, rfl, hy, hBy⟩ := hrel;rename World => wy
      have HYY := hid hy;have BY := hid hBy;clear hy hBy HY BX;by_cases hlq : q < cn
      ·have q0 : (0 : Int) <= (q : Int) := by omega
       have q1 : (q : Int) < (cn : Int) := by omega
       rcases G8.out with h0 | ⟨g, rfl, hg1⟩
       ·omega
       have hg2 := Nat.le_trans R7S.out hg1;obtain ⟨u9, hc, hf⟩ := qMK HYY.out (k := q) (by omega);have NY := hid (qCE HYY.out q (.int .i64 (-7)));have NB := hid (show Below wr.heap.size wr (wy.setCell ⟨g, q, none⟩ (.int .i64 (-7))) from BY.out.setCell hg2 _);clear HYY BY hg1 hg2;go_wp2_with fail
       go_roundw
       case rel => exact ⟨q + 1, _, by omega, by go_num, NY.out, NB.out⟩
       case measure => simp [intOf]; omega
      ·obtain rfl : q = cn := by omega
       have q1 : ¬ (q : Int) < (q : Int) := by omega
       have B5Y := hid (HB.out.trans (BY.out.mono HB.out.size));clear HYY BY G8;go_wp2_with fail
       go_roundw
       case rel => exact ⟨i + 1, by omega, by go_num, B5Y.out⟩
       case measure => simp [intOf]; omega
  ·obtain rfl : i = 2 := by omega
   have i1 : ¬ (2 : Int) < 2 := by omega
   have NU := hid (HM.out ▸ qD8 A KA c kc S S wr (by have := HM.out; omega) (by have := HM.out; omega) ((HS4.out.below B4.out).more B4.out.size) ((KR.out.below HB.out).more HB.out.size));rw [decide_eq_true rfl] at NU;have C1 := hid (fun W => qD6 kind W);have C2 := hid (fun W => qHF kind W);have C3 := hid (fun W => qD4 kind W);have C4 := hid (fun W => qJM kind W);generalize qBA kind = kc9 at *;generalize qBT kind = kg9 at *;go_wp2_with fail
   go_at_call 30
   refine NU.out.mono ?_;rintro e wa ⟨rfl, hba⟩;have BA := hid (B4.out.trans (hba.mono B4.out.size));clear hba;go_wp2_with fail
   go_at_call 31
   refine (C1.out _).mono ?_;rintro e wc ⟨rfl, hbc⟩;have BC := hid (BA.out.trans (hbc.mono BA.out.size));clear hbc;go_wp2_with fail
   go_at_call 32
   refine (C2.out _).mono ?_;rintro e wq ⟨rfl, rfl⟩;go_wp2_with fail
   go_at_call 33
   refine (C3.out _).mono ?_;rintro e wd ⟨rfl, hbd⟩;have BD := hid (BC.out.trans (hbd.mono BC.out.size));clear hbd;go_wp2_with fail
   go_at_call 34
   refine (C4.out _).mono ?_;rintro e wq ⟨rfl, rfl⟩;go_wp2_with fail
   go_at_call 22
   refine (AW4.out _ BD.out).mono ?_;rintro e we ⟨rfl, hbe⟩;have BE := hid (BW4.out.trans ((BD.out.trans (hbe.mono BD.out.size)).mono BW4.out.size));clear hbe;go_wp2_with fail
   go_ret;exact ⟨rfl, BE.out⟩
