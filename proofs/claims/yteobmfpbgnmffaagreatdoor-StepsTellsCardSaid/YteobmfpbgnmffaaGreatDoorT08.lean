/- RichSame, PkMuch2, PkLarge2, StSlim, DepRefN, EvRefW, DepMay -/
import Derived.Test.YteobmfpbgnmffaaGreatDoorT07
set_option linter.unusedVariables false
set_option maxHeartbeats 16000000
set_option maxRecDepth 100000
open Go.Lib (hid)
set_option linter.unusedSimpArgs false
namespace Go.Proofs.YteobmfpbgnmffaaGreatDoor
open Go.RowKit Go.Shelf
section
mutual
def RV.ht : RV -> Nat | .node _ _ _ _ l => htL l + 1
def htL : List RV -> Nat | [] => 0 | a :: l => max a.ht (htL l)
end
theorem qDH {a : RV} : ∀ {l : List RV}, a ∈ l -> a.ht <= htL l
 | [], h => by simp at h
 | b :: l, h => by
  simp only [htL];rcases List.mem_cons.1 h with rfl | h
  ·exact Nat.le_max_left _ _
  ·exact Nat.le_trans (qDH h) (Nat.le_max_right _ _)
theorem qBS (t : RV) : t.ht = htL t.args + 1 := by obtain ⟨k, d, A, c, l⟩ := t; rfl
theorem qAX (t : RV) : t.tree = .mk t.kind t.dep (qA6 t.args) := by obtain ⟨k, d, A, c, l⟩ := t; rfl
theorem RTree.rrow {B : Nat} {W : World} {t : RV} (h : RTree B W t) : RRow B W t.addr t.cap t.args := ⟨h.row, h.sub⟩
theorem qB2 (l : List RV) (k : Nat) (h : k < l.length) : (qA6 l)[k]'(by rw [qAD]; exact h) = l[k].tree := by
 induction l generalizing k with
 | nil => simp at h
 | cons a l ih => cases k with
  | zero => simp [qA6]
  | succ k => simp only [qA6, List.getElem_cons_succ]; exact ih k (by simpa using h)
end
section
theorem qF3 {l : List RT} {k : Nat} (hk : k < l.length) : qAB (l.take (k + 1)) = qAB (l.take k) + l[k].parts := by rw [List.take_succ_eq_append_getElem hk, qHL]; simp [qAB]
def qQ2 (l : List RV) (w : World) (e : Ending) (w' : World) : Prop := ∃ (m : Nat) (r : Bool), e = .returned (.tuple #[.int .i64 (m : Int), .bool r]) /\ m <= 2000 /\ (r = false -> m = qAB (qA6 l)) /\ Below w.heap.size w w'
end
section
def sixL (p : Pk) : Nat -> List RV | 0 => p.req | 1 => p.con | 2 => p.rcm | 3 => p.sup | 4 => p.sug | _ => p.enh
theorem qU2 (w : World) (p : Pk) (e : TypeId) {w0 : World} (h : p.Laid w0.heap.size w) (hs : w0.heap.size <= w.heap.size) (W' : World) (hb : Below (w.alloc (.cells #[.slice p.reqA p.req.length p.reqC, .slice p.conA p.con.length p.conC, .slice p.rcmA p.rcm.length p.rcmC, .slice p.supA p.sup.length p.supC, .slice p.sugA p.sug.length p.sugC, .slice p.enhA p.enh.length p.enhC] e)).heap.size (w.alloc (.cells #[.slice p.reqA p.req.length p.reqC, .slice p.conA p.con.length p.conC, .slice p.rcmA p.rcm.length p.rcmC, .slice p.supA p.sup.length p.supC, .slice p.sugA p.sug.length p.sugC, .slice p.enhA p.enh.length p.enhC] e)) W') (k : Nat) (hk : k < 6) : ∃ A c, W'.cell? ⟨w.heap.size, k, none⟩ = some (.slice A (sixL p k).length c) /\ RRow W'.heap.size W' A c (sixL p k) := by
 have b0 : Below w.heap.size w (w.alloc (.cells #[.slice p.reqA p.req.length p.reqC, .slice p.conA p.con.length p.conC, .slice p.rcmA p.rcm.length p.rcmC, .slice p.supA p.sup.length p.supC, .slice p.sugA p.sug.length p.sugC, .slice p.enhA p.enh.length p.enhC] e)) := (Below.refl _ w).alloc lR _;have b1 := b0.trans (hb.mono b0.size);have q := (h.more hs).calls b1;have cc : ∀ v, (#[.slice p.reqA p.req.length p.reqC, .slice p.conA p.con.length p.conC, .slice p.rcmA p.rcm.length p.rcmC, .slice p.supA p.sup.length p.supC, .slice p.sugA p.sug.length p.sugC, .slice p.enhA p.enh.length p.enhC] : Array Value)[k]? = some v -> W'.cell? ⟨w.heap.size, k, none⟩ = some v := fun v hv => (hb.cell (p := ⟨w.heap.size, k, none⟩) (by simp)).trans ((World.cell?_alloc_at _ _ _ _ rfl).trans hv)
 match k, hk with
 | 0, _ => exact ⟨p.reqA, p.reqC, cc _ rfl, q.req⟩
 | 1, _ => exact ⟨p.conA, p.conC, cc _ rfl, q.con⟩
 | 2, _ => exact ⟨p.rcmA, p.rcmC, cc _ rfl, q.rcm⟩
 | 3, _ => exact ⟨p.supA, p.supC, cc _ rfl, q.sup⟩
 | 4, _ => exact ⟨p.sugA, p.sugC, cc _ rfl, q.sug⟩
 | 5, _ => exact ⟨p.enhA, p.enhC, cc _ rfl, q.enh⟩
end
section
structure Pk.slim (p : Pk) : Prop where
 name : p.name.size <= 1000
 ver : p.ver.size <= 1000
 rel : p.rel.size <= 1000
 vendor : p.vendor.size <= 1000
 provN : p.prov.length <= 100
 obsN : p.obs.length <= 100
 filesN : p.files.length <= 100
 parts : ∀ k, k < 6 -> qAB (qA6 (sixL p k)) <= 2000
def qFG (p : Pk) (w : World) (e : Ending) (w' : World) : Prop := ∃ r, e = .returned (.bool r) /\ (r = false -> p.slim) /\ Below w.heap.size w w'
theorem qC8 {p : Pk} {w w' : World} (h : Below w.heap.size w w') : qFG p w (.returned (.bool true)) w' := ⟨true, rfl, (fun hf => by cases hf), h⟩
end
section
theorem qOS (n : Int) (w : World) (h : sgnI n = true) : Calls Tryz.prog 168 #[.int .u8 n] w fun e w' => e = .returned (.bool true) /\ w = w' := by
 unfold sgnI at h;have h := of_decide_eq_true h;by_cases a : 97 <= n /\ n <= 122
 ·obtain ⟨a1, a2⟩ := a;clear h
  go_enter Tryz.func168, Tryz.ntmps168
  go_wp2
  go_ret;exact ⟨rfl, rfl⟩
 by_cases b : 65 <= n /\ n <= 90
 ·obtain ⟨a1, a2⟩ := b;have a3 : ¬ 97 <= n := by omega
  clear h a
  go_enter Tryz.func168, Tryz.ntmps168
  go_wp2
  go_ret;exact ⟨rfl, rfl⟩
 by_cases c : 48 <= n /\ n <= 57
 ·obtain ⟨a1, a2⟩ := c;have a3 : ¬ 97 <= n := by omega
  have a4 : ¬ 65 <= n := by omega
  clear h a b
  go_enter Tryz.func168, Tryz.ntmps168
  go_wp2
  go_ret;exact ⟨rfl, rfl⟩
 have h : n = 46 \/ n = 95 \/ n = 43 \/ n = 45 \/ n = 47 \/ n = 58 \/ n = 64 \/ n = 126 \/ n = 94 := by omega
 clear a b c;rcases h with rfl | rfl | rfl | rfl | rfl | rfl | rfl | rfl | rfl
 all_goals
  go_enter Tryz.func168, Tryz.ntmps168
  go_wp2
  go_ret;exact ⟨rfl, rfl⟩
theorem qSH (n : Int) (w : World) (h : sgnI n = false) : Calls Tryz.prog 168 #[.int .u8 n] w fun e w' => e = .returned (.bool false) /\ w = w' := by
 unfold sgnI at h;have h := of_decide_eq_false h;have e1 : (n == 46) = false := by simp; omega
 have e2 : (n == 95) = false := by simp; omega
 have e3 : (n == 43) = false := by simp; omega
 have e4 : (n == 45) = false := by simp; omega
 have e5 : (n == 47) = false := by simp; omega
 have e6 : (n == 58) = false := by simp; omega
 have e7 : (n == 64) = false := by simp; omega
 have e8 : (n == 126) = false := by simp; omega
 have e9 : (n == 94) = false := by simp; omega
 by_cases a : 97 <= n
 ·have a2 : ¬ n <= 122 := by omega
  have b1 : 65 <= n := by omega
  have b2 : ¬ n <= 90 := by omega
  have c1 : 48 <= n := by omega
  have c2 : ¬ n <= 57 := by omega
  clear h
  go_enter Tryz.func168, Tryz.ntmps168
  go_wp2
  go_ret;exact ⟨rfl, rfl⟩
 by_cases b : 65 <= n
 ·have b2 : ¬ n <= 90 := by omega
  have c1 : 48 <= n := by omega
  have c2 : ¬ n <= 57 := by omega
  clear h
  go_enter Tryz.func168, Tryz.ntmps168
  go_wp2
  go_ret;exact ⟨rfl, rfl⟩
 by_cases c : 48 <= n
 ·have c2 : ¬ n <= 57 := by omega
  clear h
  go_enter Tryz.func168, Tryz.ntmps168
  go_wp2
  go_ret;exact ⟨rfl, rfl⟩
 clear h
 go_enter Tryz.func168, Tryz.ntmps168
 go_wp2
 go_ret;exact ⟨rfl, rfl⟩
theorem qM8 (s : ByteArray) (w : World) (hs : s.size <= maxLen) : Calls Tryz.prog 125 #[.string s] w fun e w' => e = .returned (.bool (qBW s.toList)) /\ w = w' := by
 unfold maxLen at hs;by_cases h0 : s.size = 0
 ·have HW := hid (qIQ h0);have e0 : s.toList = [] := List.eq_nil_of_length_eq_zero (by rw [qA3]; exact h0);rw [HW.out];clear HW;obtain rfl : s = ⟨#[]⟩ := qBD (e0.trans (qA4 []).symm);clear e0 h0
  go_enter Tryz.func125, Tryz.ntmps125
  go_wp2
  go_ret;exact ⟨rfl, rfl⟩
 have h1 : ¬ (s.size : Int) < 1 := by omega
 by_cases h64 : 64 < s.size
 ·have HW := hid (qJ4 h64);rw [HW.out];clear HW;have h65 : (64 : Int) < (s.size : Int) := by omega
  go_enter Tryz.func125, Tryz.ntmps125
  go_wp2
  go_ret;exact ⟨rfl, rfl⟩
 have h65 : ¬ (64 : Int) < (s.size : Int) := by omega
 obtain ⟨r, hr⟩ : ∃ r, r = qBW s.toList := ⟨_, rfl⟩;rw [<- hr];have HR := hid hr;clear hr;rcases Bool.eq_false_or_eq_true (s.toList == [97, 110, 100]) with q0 | q0
 ·obtain rfl : r = false := HR.out.trans (qB3 (by rw [beq_iff_eq.1 q0]; decide));clear HR
  go_enter Tryz.func125, Tryz.ntmps125
  go_wp2
  go_ret;exact ⟨rfl, rfl⟩
 rcases Bool.eq_false_or_eq_true (s.toList == [111, 114]) with q1 | q1
 ·obtain rfl : r = false := HR.out.trans (qB3 (by rw [beq_iff_eq.1 q1]; decide));clear HR
  go_enter Tryz.func125, Tryz.ntmps125
  go_wp2
  go_ret;exact ⟨rfl, rfl⟩
 rcases Bool.eq_false_or_eq_true (s.toList == [105, 102]) with q2 | q2
 ·obtain rfl : r = false := HR.out.trans (qB3 (by rw [beq_iff_eq.1 q2]; decide));clear HR
  go_enter Tryz.func125, Tryz.ntmps125
  go_wp2
  go_ret;exact ⟨rfl, rfl⟩
 rcases Bool.eq_false_or_eq_true (s.toList == [101, 108, 115, 101]) with q3 | q3
 ·obtain rfl : r = false := HR.out.trans (qB3 (by rw [beq_iff_eq.1 q3]; decide));clear HR
  go_enter Tryz.func125, Tryz.ntmps125
  go_wp2
  go_ret;exact ⟨rfl, rfl⟩
 rcases Bool.eq_false_or_eq_true (s.toList == [117, 110, 108, 101, 115, 115]) with q4 | q4
 ·obtain rfl : r = false := HR.out.trans (qB3 (by rw [beq_iff_eq.1 q4]; decide));clear HR
  go_enter Tryz.func125, Tryz.ntmps125
  go_wp2
  go_ret;exact ⟨rfl, rfl⟩
 rcases Bool.eq_false_or_eq_true (s.toList == [119, 105, 116, 104]) with q5 | q5
 ·obtain rfl : r = false := HR.out.trans (qB3 (by rw [beq_iff_eq.1 q5]; decide));clear HR
  go_enter Tryz.func125, Tryz.ntmps125
  go_wp2
  go_ret;exact ⟨rfl, rfl⟩
 rcases Bool.eq_false_or_eq_true (s.toList == [119, 105, 116, 104, 111, 117, 116]) with q6 | q6
 ·obtain rfl : r = false := HR.out.trans (qB3 (by rw [beq_iff_eq.1 q6]; decide));clear HR
  go_enter Tryz.func125, Tryz.ntmps125
  go_wp2
  go_ret;exact ⟨rfl, rfl⟩
 have HN := hid (qJS q0 q1 q2 q3 q4 q5 q6)
 go_enter Tryz.func125, Tryz.ntmps125
 go_wp2
 clear q0 q1 q2 q3 q4 q5 q6
 go_loop [3] (fun i => ∃ k : Nat, k <= s.size /\ i = .int .i64 (k : Int) /\ Hid (∀ c ∈ s.toList.take k, sgn c = true)) (fun i => s.size - (intOf i).toNat)
 case atStart => exact ⟨0, by omega, rfl, hid (by intro c hc; cases hc)⟩
 case round =>
  obtain ⟨k, hk, rfl, hS⟩ := hrel;by_cases hlt : k < s.size
  ·have hlt2 : (k : Int) < (s.size : Int) := by omega
   have i0 : (0 : Int) <= (k : Int) := by omega
   cases hc : sgnI ((s[k]).toNat : Int) with
   | true =>
    have HT := hid (qLN hlt hS.out hc);have SC := hid (fun W => qOS _ W hc);clear hS hc;go_wp2_with (go_at_call 168; refine (SC.out _).mono ?_; rintro e w' ⟨rfl, rfl⟩)
    go_round
    case rel => exact ⟨k + 1, by omega, by go_num, HT⟩
    case measure => simp [intOf]; omega
   | false =>
    obtain rfl : r = false := HR.out.trans (qI9 hlt hc);have SC := hid (fun W => qSH _ W hc);clear hS hc HR;go_wp2_with (go_at_call 168; refine (SC.out _).mono ?_; rintro e w' ⟨rfl, rfl⟩)
    go_ret;exact ⟨rfl, rfl⟩
  ·have hlt2 : ¬ (k : Int) < (s.size : Int) := by omega
   obtain rfl : r = true := HR.out.trans (qK7 (by omega) (by omega) (qQ3 hlt hS.out) HN.out);clear HR hS;go_wp2
   go_ret;exact ⟨rfl, rfl⟩
theorem qHA (s : ByteArray) (w : World) (hs : s.size <= maxLen) : Calls Tryz.prog 125 #[.string s] w fun e w' => e = .returned (.bool (qBW s.toList)) /\ Below w.heap.size w w' := (qM8 s w hs).mono fun e w' h => ⟨h.1, h.2 ▸ Below.refl _ _⟩
theorem qV0 {s : ByteArray} (h : 0 < s.size) : (s.toList.head? == some 47) = ((s[0].toNat : Int) == 47) := by
 have e : s.toList.head? = some s[0] := by
  rw [List.head?_eq_getElem?, List.getElem?_eq_getElem (by rw [qA3]; exact h), qC0 s 0 h]
 rw [e, Bool.eq_iff_iff, beq_iff_eq, beq_iff_eq];constructor
 ·intro h2; rw [Option.some.inj h2]; rfl
 ·intro h2
  congr 1
  apply UInt8.toNat_inj.1;have : (47 : UInt8).toNat = 47 := rfl;omega
theorem qM0 (s : ByteArray) (w : World) (hs : s.size <= maxLen) : Calls Tryz.prog 126 #[.string s] w fun e w' => e = .returned (.bool (qCK s.toList)) /\ w = w' := by
 have NA := hid (qM8 s w hs);obtain ⟨r, hr⟩ : ∃ r, r = qCK s.toList := ⟨_, rfl⟩;rw [<- hr];unfold qCK at hr;unfold maxLen at hs
 cases hn : qBW s.toList with
 | false =>
  rw [hn] at NA hr;obtain rfl : r = false := hr;clear hn
  go_enter Tryz.func126, Tryz.ntmps126
  go_wp2_with (go_at_call 125; refine NA.out.mono ?_; rintro e w1 ⟨rfl, rfl⟩)
  go_ret;exact ⟨rfl, rfl⟩
 | true =>
  rw [hn] at NA hr;have h0 : 0 < s.size := by have := (qDP.1 hn).1; rw [qA3] at this; exact this
  have h1 : (0 : Int) < (s.size : Int) := by omega
  have HR := hid (show ((s[0].toNat : Int) == 47) = r from by rw [hr, Bool.true_and, qV0 h0]);clear hn hr
  go_enter Tryz.func126, Tryz.ntmps126
  go_wp2_with fail
  go_at_call 125
  refine NA.out.mono ?_;rintro e w1 ⟨rfl, rfl⟩;go_wp2_with fail
  go_ret;exact ⟨qAA HR.out, rfl⟩
theorem qHD (s : ByteArray) (w : World) (hs : s.size <= maxLen) : Calls Tryz.prog 126 #[.string s] w fun e w' => e = .returned (.bool (qCK s.toList)) /\ Below w.heap.size w w' := (qM0 s w hs).mono fun e w' h => ⟨h.1, h.2 ▸ Below.refl _ _⟩
end
section
theorem qHM (e : Evr) (dep : Bool) (w : World) (hw : e.wf) : Calls Tryz.prog 127 #[e.val, .bool dep] w fun r w' => r = .returned (.bool (mayB e dep)) /\ Below w.heap.size w w' := by
 have WV := hid (fun W => qIZ (bs e.ver) W (by rw [qAO]; exact hw.2.1));have WR := hid (fun W => qIZ (bs e.rel) W (by rw [qAO]; exact hw.2.2));obtain ⟨r, hr⟩ : ∃ r, r = mayB e dep := ⟨_, rfl⟩;rw [<- hr];unfold mayB at hr;rw [qA4] at WV WR;have hx : (bs e.rel).toList = e.rel := qA4 _;clear hw;unfold Evr.val;obtain ⟨p, v, l⟩ := e;dsimp only at *;by_cases h0 : 0 <= p
 ·have h0' : ¬ p < 0 := by omega
  by_cases h1 : p <= 2147483647
  ·have h1' : ¬ 2147483647 < p := by omega
   rw [decide_eq_true h0, decide_eq_true h1] at hr
   cases hv : qCJ v with
   | false =>
    rw [hv] at hr WV;obtain rfl : r = false := hr;clear hx hv
    go_enter Tryz.func127, Tryz.ntmps127
    go_wp2_with (go_at_call 169; refine (WV.out _).mono ?_; rintro e' w' ⟨rfl, rfl⟩)
    go_ret;exact ⟨rfl, bR.alloc lR _⟩
   | true =>
    rw [hv] at hr WV;by_cases hl : l = []
    ·have f1 : (bs l).toList = [] := by rw [hx, hl]
     have hwl : qCJ l = false := by rw [hl]; rfl
     obtain rfl : r = dep := by rw [hr, hwl, hl]; cases dep <;> rfl
     clear hx hl hr hv hwl
     go_enter Tryz.func127, Tryz.ntmps127
     go_wp2_with (go_at_call 169; refine (WV.out _).mono ?_; rintro e' w' ⟨rfl, rfl⟩)
     go_ret;exact ⟨rfl, bR.alloc lR _⟩
    ·have f1 : ¬ (bs l).toList = [] := by rw [hx]; exact hl
     have f2 : (bs l).toList.isEmpty = false := by rw [hx]; simpa using hl
     have f3 : l.isEmpty = false := by simpa using hl
     obtain ⟨y, hy⟩ : ∃ y, y = qCJ l := ⟨_, rfl⟩;rw [<- hy] at hr WR;obtain rfl : r = y := by rw [hr, f3]; cases y <;> cases dep <;> rfl
     clear hx hl hr hv hy f3
     go_enter Tryz.func127, Tryz.ntmps127
     go_wp2_with fail
     go_at_call 169
     refine (WV.out _).mono ?_;rintro e' w' ⟨rfl, rfl⟩;go_wp2_with fail
     go_at_call 169
     refine (WR.out _).mono ?_;rintro e' w' ⟨rfl, rfl⟩;go_wp2_with fail
     go_ret;exact ⟨rfl, bR.alloc lR _⟩
  ·obtain rfl : r = false := by rw [hr, decide_eq_false h1]; simp
   have h2 : 2147483647 < p := by omega
   clear hx hr
   go_enter Tryz.func127, Tryz.ntmps127
   go_wp2_with fail
   go_ret;exact ⟨rfl, bR.alloc lR _⟩
 ·obtain rfl : r = false := by rw [hr, decide_eq_false h0]; rfl
  have h2 : p < 0 := by omega
  clear hx hr
  go_enter Tryz.func127, Tryz.ntmps127
  go_wp2_with fail
  go_ret;exact ⟨rfl, bR.alloc lR _⟩
end
section
theorem qW2 (n : Int) (w : World) : Calls Tryz.prog 196 #[.int .u8 n] w fun e w' => e = .returned (.bool (qJQ n)) /\ Below w.heap.size w w' :=
 (qT6 n w).mono fun e w' h => ⟨h.1, by rw [<- h.2]; exact Below.refl _ _⟩
theorem qAV {d : Dp} {n : Nat} {w W W' : World} (h : W.cell? ⟨n, 0, none⟩ = some (.string (bs d.name)) /\ W.cell? ⟨n, 1, none⟩ = some (.int .u8 d.op) /\ W.cell? ⟨n, 2, none⟩ = some (.int .i64 d.evr.epoch) /\ W.cell? ⟨n, 3, none⟩ = some (.string (bs d.evr.ver)) /\ W.cell? ⟨n, 4, none⟩ = some (.string (bs d.evr.rel)) /\ n < W.heap.size /\ Below n w W) (hb : Below W.heap.size W W') :
  W'.cell? ⟨n, 0, none⟩ = some (.string (bs d.name)) /\ W'.cell? ⟨n, 1, none⟩ = some (.int .u8 d.op) /\ W'.cell? ⟨n, 2, none⟩ = some (.int .i64 d.evr.epoch) /\ W'.cell? ⟨n, 3, none⟩ = some (.string (bs d.evr.ver)) /\ W'.cell? ⟨n, 4, none⟩ = some (.string (bs d.evr.rel)) /\ n < W'.heap.size /\ Below n w W' := by
 obtain ⟨c0_0, c0_1, c0_2, c0_3, c0_4, l0, hB⟩ := h;have hB_le : n <= W.heap.size := by omega
 exact ⟨(hb.cell (p := ⟨n, 0, none⟩) l0).trans c0_0, (hb.cell (p := ⟨n, 1, none⟩) l0).trans c0_1, (hb.cell (p := ⟨n, 2, none⟩) l0).trans c0_2, (hb.cell (p := ⟨n, 3, none⟩) l0).trans c0_3, (hb.cell (p := ⟨n, 4, none⟩) l0).trans c0_4, Nat.lt_of_lt_of_le l0 hb.size, hB.trans (hb.mono hB_le)⟩
theorem qTI (d : Dp) (w : World) : let W := (w.alloc (.cells #[.string (bs d.name), .int .u8 d.op, .int .i64 d.evr.epoch, .string (bs d.evr.ver), .string (bs d.evr.rel)] 37)); let n := w.heap.size; W.cell? ⟨n, 0, none⟩ = some (.string (bs d.name)) /\ W.cell? ⟨n, 1, none⟩ = some (.int .u8 d.op) /\ W.cell? ⟨n, 2, none⟩ = some (.int .i64 d.evr.epoch) /\ W.cell? ⟨n, 3, none⟩ = some (.string (bs d.evr.ver)) /\ W.cell? ⟨n, 4, none⟩ = some (.string (bs d.evr.rel)) /\ n < W.heap.size /\ Below n w W := by
 refine ⟨?_, ?_, ?_, ?_, ?_, ?_, ?_⟩
 all_goals first | exact (World.cell?_alloc_at _ _ _ _ (by simp)).trans rfl | exact (bR.alloc (by simp; try omega) _) | (simp; try omega)
theorem qOM (d : Dp) (w : World) (hw : d.wf) (hI : PkIn w) : Calls Tryz.prog 101 #[d.val] w fun e w' => e = .returned (.bool (qAQ d)) /\ Below w.heap.size w w' := by
 have hn64 : (bs d.name).size <= maxLen := by rw [qAO]; exact hw.1
 have NA := hid (fun W (h : Below w.heap.size w W) => qHW (bs d.name) W hn64 (hI.below h));have FA := hid (fun W (h : Below w.heap.size w W) => qI0 (bs d.name) W hn64 (hI.below h));have OA := hid (fun W (h : Below w.heap.size w W) => qUT d.op W (hI.1.below h));have EA := hid (fun W (h : Below w.heap.size w W) => qJC d.evr true W hw.2.2);rw [qA4] at NA FA;have S0 := qTI d w;dsimp only at S0;obtain ⟨r, hr⟩ : ∃ r, r = qAQ d := ⟨_, rfl⟩;rw [<- hr];unfold qAQ at hr;clear hI hw hn64
 cases h1 : qBW d.name with
 | false =>
  rw [h1] at NA hr;obtain rfl : r = false := hr;clear FA OA EA h1;unfold Dp.val
  go_enter Tryz.func101, Tryz.ntmps101
  go_wp2_with fail
  go_at_call 113
  generalize (w.alloc (.cells #[.string (bs d.name), .int .u8 d.op, .int .i64 d.evr.epoch, .string (bs d.evr.ver), .string (bs d.evr.rel)] 37)) = W at *;generalize hn : w.heap.size = n at *;obtain ⟨c0_0, c0_1, c0_2, c0_3, c0_4, l0, hB⟩ := id S0;refine (NA.out _ hB).mono ?_;rintro e1 w1 ⟨rfl, h⟩;have S1 := qAV S0 h;clear S0 h c0_0 c0_1 c0_2 c0_3 c0_4 l0 hB;obtain ⟨c0_0, c0_1, c0_2, c0_3, c0_4, l0, hB⟩ := id S1;go_wp2_with fail
  go_ret;exact ⟨rfl, by rw [hn]; exact hB⟩
 | true =>
  rw [h1] at NA hr
  cases h2 : qJQ d.op with
  | false =>
   rw [h2] at OA hr;obtain rfl : r = false := hr;clear FA EA h1 h2;unfold Dp.val
   go_enter Tryz.func101, Tryz.ntmps101
   go_wp2_with fail
   go_at_call 113
   generalize (w.alloc (.cells #[.string (bs d.name), .int .u8 d.op, .int .i64 d.evr.epoch, .string (bs d.evr.ver), .string (bs d.evr.rel)] 37)) = W at *;generalize hn : w.heap.size = n at *;obtain ⟨c0_0, c0_1, c0_2, c0_3, c0_4, l0, hB⟩ := id S0;refine (NA.out _ hB).mono ?_;rintro e1 w1 ⟨rfl, h⟩;have S1 := qAV S0 h;clear S0 h c0_0 c0_1 c0_2 c0_3 c0_4 l0 hB;obtain ⟨c0_0, c0_1, c0_2, c0_3, c0_4, l0, hB⟩ := id S1;go_wp2_with fail
   go_at_call 145
   refine (OA.out _ hB).mono ?_;rintro e2 w2 ⟨rfl, h⟩;have S2 := qAV S1 h;clear c0_0 c0_1 c0_2 c0_3 c0_4 l0 hB;clear S1 h;obtain ⟨c0_0, c0_1, c0_2, c0_3, c0_4, l0, hB⟩ := id S2;go_wp2_with fail
   go_ret;exact ⟨rfl, by rw [hn]; exact hB⟩
  | true =>
   rw [h2] at OA hr;by_cases h3 : d.op = 0
   ·rw [if_pos h3] at hr;clear FA EA h1 h2;have h4 : (d.op == 0) = true := by simpa using h3
    have HR := hid hr;unfold qFA at HR;clear hr h3;have q1 : (bs d.evr.ver).toList = d.evr.ver := qA4 _;have q2 : (bs d.evr.rel).toList = d.evr.rel := qA4 _;unfold Dp.val
    go_enter Tryz.func101, Tryz.ntmps101
    go_wp2_with fail
    go_at_call 113
    generalize (w.alloc (.cells #[.string (bs d.name), .int .u8 d.op, .int .i64 d.evr.epoch, .string (bs d.evr.ver), .string (bs d.evr.rel)] 37)) = W at *;generalize hn : w.heap.size = n at *;obtain ⟨c0_0, c0_1, c0_2, c0_3, c0_4, l0, hB⟩ := id S0;refine (NA.out _ hB).mono ?_;rintro e1 w1 ⟨rfl, h⟩;have S1 := qAV S0 h;clear S0 h c0_0 c0_1 c0_2 c0_3 c0_4 l0 hB;obtain ⟨c0_0, c0_1, c0_2, c0_3, c0_4, l0, hB⟩ := id S1;go_wp2_with fail
    go_at_call 145
    refine (OA.out _ hB).mono ?_;rintro e2 w2 ⟨rfl, h⟩;have S2 := qAV S1 h;clear c0_0 c0_1 c0_2 c0_3 c0_4 l0 hB;clear S1 h;obtain ⟨c0_0, c0_1, c0_2, c0_3, c0_4, l0, hB⟩ := id S2;go_wp2_with fail
    all_goals
     go_ret;exact ⟨qAA (by rw [HR.out]; simp [*]), by rw [hn]; exact hB⟩
   ·rw [if_neg h3] at hr;have h4 : (d.op == 0) = false := by simpa using h3
    cases h5 : qCK d.name with
    | true =>
     rw [h5] at FA hr;obtain rfl : r = false := hr;clear EA h1 h2 h5;unfold Dp.val
     go_enter Tryz.func101, Tryz.ntmps101
     go_wp2_with fail
     go_at_call 113
     generalize (w.alloc (.cells #[.string (bs d.name), .int .u8 d.op, .int .i64 d.evr.epoch, .string (bs d.evr.ver), .string (bs d.evr.rel)] 37)) = W at *;generalize hn : w.heap.size = n at *;obtain ⟨c0_0, c0_1, c0_2, c0_3, c0_4, l0, hB⟩ := id S0;refine (NA.out _ hB).mono ?_;rintro e1 w1 ⟨rfl, h⟩;have S1 := qAV S0 h;clear S0 h c0_0 c0_1 c0_2 c0_3 c0_4 l0 hB;obtain ⟨c0_0, c0_1, c0_2, c0_3, c0_4, l0, hB⟩ := id S1;go_wp2_with fail
     go_at_call 145
     refine (OA.out _ hB).mono ?_;rintro e2 w2 ⟨rfl, h⟩;have S2 := qAV S1 h;clear c0_0 c0_1 c0_2 c0_3 c0_4 l0 hB;clear S1 h;obtain ⟨c0_0, c0_1, c0_2, c0_3, c0_4, l0, hB⟩ := id S2;go_wp2_with fail
     go_at_call 114
     refine (FA.out _ hB).mono ?_;rintro e3 w3 ⟨rfl, h⟩;have S3 := qAV S2 h;clear c0_0 c0_1 c0_2 c0_3 c0_4 l0 hB;clear S2 h;obtain ⟨c0_0, c0_1, c0_2, c0_3, c0_4, l0, hB⟩ := id S3;go_wp2_with fail
     go_ret;exact ⟨rfl, by rw [hn]; exact hB⟩
    | false =>
     rw [h5] at FA hr;have hr2 : r = mayB d.evr true := hr;rw [<- hr2] at EA;clear hr hr2 h1 h2 h5;unfold Evr.val at EA;unfold Dp.val
     go_enter Tryz.func101, Tryz.ntmps101
     go_wp2_with fail
     go_at_call 113
     generalize (w.alloc (.cells #[.string (bs d.name), .int .u8 d.op, .int .i64 d.evr.epoch, .string (bs d.evr.ver), .string (bs d.evr.rel)] 37)) = W at *;generalize hn : w.heap.size = n at *;obtain ⟨c0_0, c0_1, c0_2, c0_3, c0_4, l0, hB⟩ := id S0;refine (NA.out _ hB).mono ?_;rintro e1 w1 ⟨rfl, h⟩;have S1 := qAV S0 h;clear S0 h c0_0 c0_1 c0_2 c0_3 c0_4 l0 hB;obtain ⟨c0_0, c0_1, c0_2, c0_3, c0_4, l0, hB⟩ := id S1;go_wp2_with fail
     go_at_call 145
     refine (OA.out _ hB).mono ?_;rintro e2 w2 ⟨rfl, h⟩;have S2 := qAV S1 h;clear c0_0 c0_1 c0_2 c0_3 c0_4 l0 hB;clear S1 h;obtain ⟨c0_0, c0_1, c0_2, c0_3, c0_4, l0, hB⟩ := id S2;go_wp2_with fail
     go_at_call 114
     refine (FA.out _ hB).mono ?_;rintro e3 w3 ⟨rfl, h⟩;have S3 := qAV S2 h;clear c0_0 c0_1 c0_2 c0_3 c0_4 l0 hB;clear S2 h;obtain ⟨c0_0, c0_1, c0_2, c0_3, c0_4, l0, hB⟩ := id S3;go_wp2_with fail
     go_at_call 115
     refine (EA.out _ hB).mono ?_;rintro e4 w4 ⟨rfl, h⟩;have S4 := qAV S3 h;clear c0_0 c0_1 c0_2 c0_3 c0_4 l0 hB;clear S3 h;obtain ⟨c0_0, c0_1, c0_2, c0_3, c0_4, l0, hB⟩ := id S4;go_wp2_with fail
     go_ret;exact ⟨rfl, by rw [hn]; exact hB⟩
theorem qJO (d : Dp) (w : World) (hw : d.wf) : Calls Tryz.prog 170 #[d.val] w fun e w' => e = .returned (.bool (qAQ d)) /\ Below w.heap.size w w' := by
 have hn64 : (bs d.name).size <= maxLen := by rw [qAO]; exact hw.1
 have NA := hid (fun W (h : Below w.heap.size w W) => qHA (bs d.name) W hn64);have FA := hid (fun W (h : Below w.heap.size w W) => qHD (bs d.name) W hn64);have OA := hid (fun W (h : Below w.heap.size w W) => qW2 d.op W);have EA := hid (fun W (h : Below w.heap.size w W) => qHM d.evr true W hw.2.2);rw [qA4] at NA FA;have S0 := qTI d w;dsimp only at S0;obtain ⟨r, hr⟩ : ∃ r, r = qAQ d := ⟨_, rfl⟩;rw [<- hr];unfold qAQ at hr;clear hw hn64
 cases h1 : qBW d.name with
 | false =>
  rw [h1] at NA hr;obtain rfl : r = false := hr;clear FA OA EA h1;unfold Dp.val
  go_enter Tryz.func170, Tryz.ntmps170
  go_wp2_with fail
  go_at_call 125
  generalize (w.alloc (.cells #[.string (bs d.name), .int .u8 d.op, .int .i64 d.evr.epoch, .string (bs d.evr.ver), .string (bs d.evr.rel)] 37)) = W at *;generalize hn : w.heap.size = n at *;obtain ⟨c0_0, c0_1, c0_2, c0_3, c0_4, l0, hB⟩ := id S0;refine (NA.out _ hB).mono ?_;rintro e1 w1 ⟨rfl, h⟩;have S1 := qAV S0 h;clear S0 h c0_0 c0_1 c0_2 c0_3 c0_4 l0 hB;obtain ⟨c0_0, c0_1, c0_2, c0_3, c0_4, l0, hB⟩ := id S1;go_wp2_with fail
  go_ret;exact ⟨rfl, by rw [hn]; exact hB⟩
 | true =>
  rw [h1] at NA hr
  cases h2 : qJQ d.op with
  | false =>
   rw [h2] at OA hr;obtain rfl : r = false := hr;clear FA EA h1 h2;unfold Dp.val
   go_enter Tryz.func170, Tryz.ntmps170
   go_wp2_with fail
   go_at_call 125
   generalize (w.alloc (.cells #[.string (bs d.name), .int .u8 d.op, .int .i64 d.evr.epoch, .string (bs d.evr.ver), .string (bs d.evr.rel)] 37)) = W at *;generalize hn : w.heap.size = n at *;obtain ⟨c0_0, c0_1, c0_2, c0_3, c0_4, l0, hB⟩ := id S0;refine (NA.out _ hB).mono ?_;rintro e1 w1 ⟨rfl, h⟩;have S1 := qAV S0 h;clear S0 h c0_0 c0_1 c0_2 c0_3 c0_4 l0 hB;obtain ⟨c0_0, c0_1, c0_2, c0_3, c0_4, l0, hB⟩ := id S1;go_wp2_with fail
   go_at_call 196
   refine (OA.out _ hB).mono ?_;rintro e2 w2 ⟨rfl, h⟩;have S2 := qAV S1 h;clear c0_0 c0_1 c0_2 c0_3 c0_4 l0 hB;clear S1 h;obtain ⟨c0_0, c0_1, c0_2, c0_3, c0_4, l0, hB⟩ := id S2;go_wp2_with fail
   go_ret;exact ⟨rfl, by rw [hn]; exact hB⟩
  | true =>
   rw [h2] at OA hr;by_cases h3 : d.op = 0
   ·rw [if_pos h3] at hr;clear FA EA h1 h2;have h4 : (d.op == 0) = true := by simpa using h3
    have HR := hid hr;unfold qFA at HR;clear hr h3;have q1 : (bs d.evr.ver).toList = d.evr.ver := qA4 _;have q2 : (bs d.evr.rel).toList = d.evr.rel := qA4 _;unfold Dp.val
    go_enter Tryz.func170, Tryz.ntmps170
    go_wp2_with fail
    go_at_call 125
    generalize (w.alloc (.cells #[.string (bs d.name), .int .u8 d.op, .int .i64 d.evr.epoch, .string (bs d.evr.ver), .string (bs d.evr.rel)] 37)) = W at *;generalize hn : w.heap.size = n at *;obtain ⟨c0_0, c0_1, c0_2, c0_3, c0_4, l0, hB⟩ := id S0;refine (NA.out _ hB).mono ?_;rintro e1 w1 ⟨rfl, h⟩;have S1 := qAV S0 h;clear S0 h c0_0 c0_1 c0_2 c0_3 c0_4 l0 hB;obtain ⟨c0_0, c0_1, c0_2, c0_3, c0_4, l0, hB⟩ := id S1;go_wp2_with fail
    go_at_call 196
    refine (OA.out _ hB).mono ?_;rintro e2 w2 ⟨rfl, h⟩;have S2 := qAV S1 h;clear c0_0 c0_1 c0_2 c0_3 c0_4 l0 hB;clear S1 h;obtain ⟨c0_0, c0_1, c0_2, c0_3, c0_4, l0, hB⟩ := id S2;go_wp2_with fail
    all_goals
     go_ret;exact ⟨qAA (by rw [HR.out]; simp [*]), by rw [hn]; exact hB⟩
   ·rw [if_neg h3] at hr;have h4 : (d.op == 0) = false := by simpa using h3
    cases h5 : qCK d.name with
    | true =>
     rw [h5] at FA hr;obtain rfl : r = false := hr;clear EA h1 h2 h5;unfold Dp.val
     go_enter Tryz.func170, Tryz.ntmps170
     go_wp2_with fail
     go_at_call 125
     generalize (w.alloc (.cells #[.string (bs d.name), .int .u8 d.op, .int .i64 d.evr.epoch, .string (bs d.evr.ver), .string (bs d.evr.rel)] 37)) = W at *;generalize hn : w.heap.size = n at *;obtain ⟨c0_0, c0_1, c0_2, c0_3, c0_4, l0, hB⟩ := id S0;refine (NA.out _ hB).mono ?_;rintro e1 w1 ⟨rfl, h⟩;have S1 := qAV S0 h;clear S0 h c0_0 c0_1 c0_2 c0_3 c0_4 l0 hB;obtain ⟨c0_0, c0_1, c0_2, c0_3, c0_4, l0, hB⟩ := id S1;go_wp2_with fail
     go_at_call 196
     refine (OA.out _ hB).mono ?_;rintro e2 w2 ⟨rfl, h⟩;have S2 := qAV S1 h;clear c0_0 c0_1 c0_2 c0_3 c0_4 l0 hB;clear S1 h;obtain ⟨c0_0, c0_1, c0_2, c0_3, c0_4, l0, hB⟩ := id S2;go_wp2_with fail
     go_at_call 126
     refine (FA.out _ hB).mono ?_;rintro e3 w3 ⟨rfl, h⟩;have S3 := qAV S2 h;clear c0_0 c0_1 c0_2 c0_3 c0_4 l0 hB;clear S2 h;obtain ⟨c0_0, c0_1, c0_2, c0_3, c0_4, l0, hB⟩ := id S3;go_wp2_with fail
     go_ret;exact ⟨rfl, by rw [hn]; exact hB⟩
    | false =>
     rw [h5] at FA hr;have hr2 : r = mayB d.evr true := hr;rw [<- hr2] at EA;clear hr hr2 h1 h2 h5;unfold Evr.val at EA;unfold Dp.val
     go_enter Tryz.func170, Tryz.ntmps170
     go_wp2_with fail
     go_at_call 125
     generalize (w.alloc (.cells #[.string (bs d.name), .int .u8 d.op, .int .i64 d.evr.epoch, .string (bs d.evr.ver), .string (bs d.evr.rel)] 37)) = W at *;generalize hn : w.heap.size = n at *;obtain ⟨c0_0, c0_1, c0_2, c0_3, c0_4, l0, hB⟩ := id S0;refine (NA.out _ hB).mono ?_;rintro e1 w1 ⟨rfl, h⟩;have S1 := qAV S0 h;clear S0 h c0_0 c0_1 c0_2 c0_3 c0_4 l0 hB;obtain ⟨c0_0, c0_1, c0_2, c0_3, c0_4, l0, hB⟩ := id S1;go_wp2_with fail
     go_at_call 196
     refine (OA.out _ hB).mono ?_;rintro e2 w2 ⟨rfl, h⟩;have S2 := qAV S1 h;clear c0_0 c0_1 c0_2 c0_3 c0_4 l0 hB;clear S1 h;obtain ⟨c0_0, c0_1, c0_2, c0_3, c0_4, l0, hB⟩ := id S2;go_wp2_with fail
     go_at_call 126
     refine (FA.out _ hB).mono ?_;rintro e3 w3 ⟨rfl, h⟩;have S3 := qAV S2 h;clear c0_0 c0_1 c0_2 c0_3 c0_4 l0 hB;clear S2 h;obtain ⟨c0_0, c0_1, c0_2, c0_3, c0_4, l0, hB⟩ := id S3;go_wp2_with fail
     go_at_call 127
     refine (EA.out _ hB).mono ?_;rintro e4 w4 ⟨rfl, h⟩;have S4 := qAV S3 h;clear c0_0 c0_1 c0_2 c0_3 c0_4 l0 hB;clear S3 h;obtain ⟨c0_0, c0_1, c0_2, c0_3, c0_4, l0, hB⟩ := id S4;go_wp2_with fail
     go_ret;exact ⟨rfl, by rw [hn]; exact hB⟩
