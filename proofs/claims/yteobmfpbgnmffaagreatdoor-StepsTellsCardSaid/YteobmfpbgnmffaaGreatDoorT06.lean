/- EvShow, AppendRd, PkA, SpOps, DepPlain -/
import Derived.Test.YteobmfpbgnmffaaGreatDoorT05
import Derived.Deep.RegionHeld3
import Derived.Lib.Join
set_option linter.unusedVariables false
set_option maxHeartbeats 8000000
set_option maxRecDepth 100000
open Go.Lib (hid)
set_option linter.unusedSimpArgs false
namespace Go.Proofs.YteobmfpbgnmffaaGreatDoor
open Go.RowKit Go.Shelf
section
theorem qJC (e : Evr) (dep : Bool) (w : World) (hw : e.wf) : Calls Tryz.prog 115 #[e.val, .bool dep] w fun r w' => r = .returned (.bool (mayB e dep)) /\ Below w.heap.size w w' := by
 have WV := hid (fun W => qLQ (bs e.ver) W (by rw [qAO]; exact hw.2.1));have WR := hid (fun W => qLQ (bs e.rel) W (by rw [qAO]; exact hw.2.2));obtain ⟨r, hr⟩ : ∃ r, r = mayB e dep := ⟨_, rfl⟩;rw [<- hr];unfold mayB at hr;rw [qA4] at WV WR;have hx : (bs e.rel).toList = e.rel := qA4 _;clear hw;unfold Evr.val;obtain ⟨p, v, l⟩ := e;dsimp only at *;by_cases h0 : 0 <= p
 ·by_cases h1 : p <= 2147483647
  ·rw [decide_eq_true h0, decide_eq_true h1] at hr;generalize qCJ v = x at *;generalize qCJ l = y at *
   cases x with
   | false =>
    obtain rfl : r = false := hr;clear hx
    go_enter Tryz.func115, Tryz.ntmps115
    go_wp2_with (go_at_call 159; refine (WV.out _).mono ?_; rintro e' w' ⟨rfl, rfl⟩)
    go_ret;exact ⟨rfl, bR.alloc lR _⟩
   | true =>
    cases y with
    | true =>
     obtain rfl : r = true := hr;clear hx
     go_enter Tryz.func115, Tryz.ntmps115
     go_wp2_with ((first | (go_at_call 159; ((with_reducible refine (WV.out _).mono ?_); rintro e' w' ⟨rfl, rfl⟩)) | (go_at_call 159; refine (WR.out _).mono ?_; rintro e' w' ⟨rfl, rfl⟩)))
     go_ret;exact ⟨rfl, bR.alloc lR _⟩
    | false =>
     cases dep with
     | false =>
      obtain rfl : r = false := hr;clear hx
      go_enter Tryz.func115, Tryz.ntmps115
      go_wp2_with ((first | (go_at_call 159; ((with_reducible refine (WV.out _).mono ?_); rintro e' w' ⟨rfl, rfl⟩)) | (go_at_call 159; refine (WR.out _).mono ?_; rintro e' w' ⟨rfl, rfl⟩)))
      go_ret;exact ⟨rfl, bR.alloc lR _⟩
     | true =>
      by_cases hl : l = []
      ·have f1 : (bs l).toList = [] := by rw [hx, hl]
       obtain rfl : r = true := by rw [hr, hl]; rfl
       clear hx hl hr
       go_enter Tryz.func115, Tryz.ntmps115
       go_wp2_with ((first | (go_at_call 159; ((with_reducible refine (WV.out _).mono ?_); rintro e' w' ⟨rfl, rfl⟩)) | (go_at_call 159; refine (WR.out _).mono ?_; rintro e' w' ⟨rfl, rfl⟩)))
       go_ret;exact ⟨rfl, bR.alloc lR _⟩
      ·have f1 : ¬ (bs l).toList = [] := by rw [hx]; exact hl
       have f2 : (bs l).toList.isEmpty = false := by rw [hx]; simpa using hl
       obtain rfl : r = false := by rw [hr]; simp [hl]
       clear hx hl hr
       go_enter Tryz.func115, Tryz.ntmps115
       go_wp2_with ((first | (go_at_call 159; ((with_reducible refine (WV.out _).mono ?_); rintro e' w' ⟨rfl, rfl⟩)) | (go_at_call 159; refine (WR.out _).mono ?_; rintro e' w' ⟨rfl, rfl⟩)))
       go_ret;exact ⟨rfl, bR.alloc lR _⟩
  ·obtain rfl : r = false := by rw [hr, decide_eq_false h1]; simp
   have h2 : 2147483647 < p := by omega
   clear hx hr
   go_enter Tryz.func115, Tryz.ntmps115
   go_wp2_with fail
   go_ret;exact ⟨rfl, bR.alloc lR _⟩
 ·obtain rfl : r = false := by rw [hr, decide_eq_false h0]; rfl
  have h2 : p < 0 := by omega
  clear hx hr
  go_enter Tryz.func115, Tryz.ntmps115
  go_wp2_with fail
  go_ret;exact ⟨rfl, bR.alloc lR _⟩
end
section
open Go.RowKit
theorem qEL {α β : Type} {enc : α -> List β} {size : Nat} (he : ∀ x, (enc x).length = size) : ∀ D : List α, (D.flatMap enc).length = D.length * size
 | [] => by simp
 | x :: D => by rw [List.flatMap_cons, List.length_append, he, qEL he D, List.length_cons, Nat.add_mul]; omega
section
variable {P : Program} {α : Type} {enc : α -> List Value} (w : World)
theorem qE2 (base : Nat) (t ty e : TypeId) (i : TypeInfo) (size : Nat) (ht : P.underlying t = some (.slice e)) (hi : P.info? e = some i)
  (v : Value) (n : Nat) (xs : List Value) (hown : w.ownsRow base e size v n xs) (c : Nat) : (Builtin.append_ #[t, t] ty #[v, .slice none 0 c]).run P w = .ok v w := by
 rcases hown.2 with ⟨rfl, rfl⟩ | ⟨g, cap, cur, rfl, _, _, hnc, _⟩
 ·simp [Builtin.append_, run_underlying ht, sizeOf, typeInfo, hi, Builtin.lenOf, Builtin.firstCells]
 ·simp [Builtin.append_, run_underlying ht, sizeOf, typeInfo, hi, Builtin.lenOf, Builtin.firstCells, hnc, storeCells]
theorem qD2 (base : Nat) (t ty e : TypeId) (i : TypeInfo) (z : Value) (size bytes : Nat) (ht : P.underlying t = some (.slice e)) (hi : P.info? e = some i) (hz : i.zero = some z) (hsize : i.size = size) (hby : i.bytes = bytes) (hzc : z.cells.size = size) (hs0 : 0 < size)
  (he : ∀ x, (enc x).length = size) (h1 : ∀ x, ∀ u ∈ enc x, u.oneCell' = true)
  (v : Value) (n : Nat) (xs : List Value) (hown : w.ownsRow base e size v n xs) (B : Nat) (A : Option Addr) (c : Nat) (D : List α) (hT : Rd enc size B A c D w) (hn : n + D.length <= 1000000) (hbytes : bytes <= 1000) (hbase : base <= w.heap.size) :
  ∃ v' w', (Builtin.append_ #[t, t] ty #[v, .slice A D.length c]).run P w = .ok v' w' /\ w'.ownsRow base e size v' (n + D.length) (xs ++ D.flatMap enc) /\ w.grownBy w' v.ownBlock /\ (v'.ownBlock = v.ownBlock \/ v'.ownBlock = some w.heap.size) := by
 cases A with
 | none =>
  have hD : D = [] := by
   cases D with
   | nil => rfl
   | cons x D => obtain ⟨b, o, e, _⟩ := hT.2.2 0 (by simp); cases e
  subst hD;exact ⟨v, w, qE2 w base t ty e i size ht hi v n xs hown c, by simpa using hown, World.grownBy.refl w _, .inl rfl⟩
 | some ad =>
  obtain ⟨v', w', hrun, r1, r2, _, r4⟩ := run_append_own_at (P := P) w base t ty e i z size bytes ht hi hz hsize hby hzc hs0 v n xs hown ad D.length c (D.flatMap enc) (qEL he D) (fun j u hu => by
   have hj : j < D.length * size := by
    have := (List.getElem?_eq_some_iff.1 hu).1;rw [qEL he] at this;exact this
   have hk : j / size < D.length := Nat.div_lt_of_lt_mul (by rw [Nat.mul_comm]; exact hj);obtain ⟨b, o, e2, _, hc⟩ := hT.2.2 (j / size) hk;cases e2
   rw [Addr.add_lit];have hd := Nat.div_add_mod j size;have h3 := qCR enc size he D (j / size) hk (j % size) (Nat.mod_lt _ hs0);rw [show j / size * size + j % size = j by rw [Nat.mul_comm]; exact hd, hu] at h3;have h4 := hc (j % size) u h3.symm;rw [show o + j / size * size + j % size = o + j by rw [Nat.add_assoc, Nat.mul_comm (j / size)]; rw [hd]] at h4;exact h4) (fun u hu => by obtain ⟨x, _, hx⟩ := List.mem_flatMap.1 hu; exact h1 x u hx) (by unfold maxLen; omega) (by have := Nat.mul_le_mul hn hbytes; omega) hbase
  exact ⟨v', w', hrun, r1, r2, r4⟩
theorem qE1 {ops : Array Oper} {o : Oper} {a : Act} {K : Act -> World -> Prop} {Q : Exit -> Act -> World -> Prop} {E : Prop} (hgd : o.guard = none) (s x : Operand) (t : TypeId)
  (ho : o.op = .call { callee := .builtin .append, args := #[s, x], argTypes := #[t, t] })
  (base : Nat) (e : TypeId) (i : TypeInfo) (z : Value) (size bytes : Nat) (ht : P.underlying t = some (.slice e)) (hi : P.info? e = some i) (hz : i.zero = some z) (hsize : i.size = size) (hby : i.bytes = bytes) (hzc : z.cells.size = size) (hs0 : 0 < size)
  (he : ∀ x, (enc x).length = size) (h1 : ∀ x, ∀ u ∈ enc x, u.oneCell' = true)
  (v : Value) (n : Nat) (xs : List Value) (hs : a.eval s = v) (hown : w.ownsRow base e size v n xs) (B : Nat) (A : Option Addr) (c : Nat) (D : List α) (m : Nat) (hm : m = D.length) (hx : a.eval x = .slice A m c) (hT : Rd enc size B A c D w) (hn : n + D.length <= 1000000) (hbytes : bytes <= 1000) (hbase : base <= w.heap.size)
  (h : ∀ v' w', w'.ownsRow base e size v' (n + D.length) (xs ++ D.flatMap enc) -> w.grownBy w' v.ownBlock -> (v'.ownBlock = v.ownBlock \/ v'.ownBlock = some w.heap.size) -> K (a.put o.dst v') w') :
  if Region.wanted o (yielded ops a.tmps) = true then Oper.wp P o a w K Q else E := by
 subst hm;have hw : Region.wanted o (yielded ops a.tmps) = true := by simp [Region.wanted, hgd]
 rw [if_pos hw];obtain ⟨v', w', hrun, r1, r2, r3⟩ := qD2 (P := P) w base t o.type e i z size bytes ht hi hz hsize hby hzc hs0 he h1 v n xs hown B A c D hT hn hbytes hbase;unfold Oper.wp;simp [execOp, ho, resolve, invoke, builtin, hs, hx, hrun, Result.andThen];exact h v' w' r1 r2 r3
end
end
section
theorem qAH {B : Nat} {w W : World} {n : Nat} (h : Below B w W) : Below B w (W.drewN n) := ⟨h.os, h.tape, h.output, h.size, h.block⟩
structure Pk where
 name : ByteArray
 epoch : Int
 ver : ByteArray
 rel : ByteArray
 arch : Int
 vendor : ByteArray
 provA : Option Addr
 provC : Nat
 prov : List Dp
 reqA : Option Addr
 reqC : Nat
 req : List RV
 conA : Option Addr
 conC : Nat
 con : List RV
 obsA : Option Addr
 obsC : Nat
 obs : List Dp
 rcmA : Option Addr
 rcmC : Nat
 rcm : List RV
 supA : Option Addr
 supC : Nat
 sup : List RV
 sugA : Option Addr
 sugC : Nat
 sug : List RV
 enhA : Option Addr
 enhC : Nat
 enh : List RV
 filesA : Option Addr
 filesC : Nat
 files : List ByteArray
def Pk.val (p : Pk) : Value := .agg #[.string p.name, .int .i64 p.epoch, .string p.ver, .string p.rel, .int .u8 p.arch, .string p.vendor, .slice p.provA p.prov.length p.provC, .slice p.reqA p.req.length p.reqC, .slice p.conA p.con.length p.conC, .slice p.obsA p.obs.length p.obsC, .slice p.rcmA p.rcm.length p.rcmC, .slice p.supA p.sup.length p.supC, .slice p.sugA p.sug.length p.sugC, .slice p.enhA p.enh.length p.enhC, .slice p.filesA p.files.length p.filesC]
def Pk.evr (p : Pk) : Evr := ⟨p.epoch, p.ver.toList, p.rel.toList⟩
def Dp.small (d : Dp) : Prop := d.name.length <= 500 /\ d.evr.ver.length <= 500 /\ d.evr.rel.length <= 500
structure Pk.small (p : Pk) : Prop where
 name : p.name.size <= 1000
 ver : p.ver.size <= 1000
 rel : p.rel.size <= 1000
 vendor : p.vendor.size <= 1000
 provN : p.prov.length <= 100
 obsN : p.obs.length <= 100
 filesN : p.files.length <= 100
 prov : ∀ d ∈ p.prov, d.small
 obs : ∀ d ∈ p.obs, d.small
 files : ∀ s ∈ p.files, s.size <= 500
structure Pk.Laid (B : Nat) (W : World) (p : Pk) : Prop where
 ar : (Lit.int .u8 p.arch).wf = true
 ep : (Lit.int .i64 p.epoch).wf = true
 n0 : p.name.size <= maxLen
 n1 : p.ver.size <= maxLen
 n2 : p.rel.size <= maxLen
 n3 : p.vendor.size <= maxLen
 prov : Rd encD 5 B p.provA p.provC p.prov W
 provW : ∀ d ∈ p.prov, d.wf
 obs : Rd encD 5 B p.obsA p.obsC p.obs W
 obsW : ∀ d ∈ p.obs, d.wf
 files : Rd (fun s => [Value.string s]) 1 B p.filesA p.filesC p.files W
 filesW : ∀ s ∈ p.files, s.size <= maxLen
 req : RRow B W p.reqA p.reqC p.req
 con : RRow B W p.conA p.conC p.con
 rcm : RRow B W p.rcmA p.rcmC p.rcm
 sup : RRow B W p.supA p.supC p.sup
 sug : RRow B W p.sugA p.sugC p.sug
 enh : RRow B W p.enhA p.enhC p.enh
theorem Pk.Laid.below {B : Nat} {W W' : World} {p : Pk} (h : p.Laid B W) (hb : Below B W W') : p.Laid B W' :=
 { h with prov := h.prov.below hb, obs := h.obs.below hb, files := h.files.below hb, req := h.req.below hb, con := h.con.below hb, rcm := h.rcm.below hb, sup := h.sup.below hb, sug := h.sug.below hb, enh := h.enh.below hb }
theorem Pk.Laid.more {B B' : Nat} {W : World} {p : Pk} (h : p.Laid B W) (hb : B <= B') : p.Laid B' W :=
 { h with prov := h.prov.more hb, obs := h.obs.more hb, files := h.files.more hb, req := h.req.more hb, con := h.con.more hb, rcm := h.rcm.more hb, sup := h.sup.more hb, sug := h.sug.more hb, enh := h.enh.more hb }
theorem Pk.Laid.calls {W W' : World} {p : Pk} (h : p.Laid W.heap.size W) (hb : Below W.heap.size W W') : p.Laid W'.heap.size W' := (h.below hb).more hb.size
theorem qEK (d : Dp) : (encD d).length = 5 := rfl
theorem qHX (d : Dp) : ∀ u ∈ encD d, u.oneCell' = true := by
 intro u hu;simp only [encD, List.mem_cons, List.not_mem_nil, or_false] at hu;rcases hu with rfl | rfl | rfl | rfl | rfl <;> rfl
end
section
def qL9 (w : World) : Prop := 0 < w.heap.size /\ ∃ bm n, w.cell? ⟨2, 0, none⟩ = some (.map (some bm)) /\ 2 < w.heap.size /\ bm < w.heap.size /\ w.ownsMap Tryz.prog 9 (plainElem Tryz.prog 5) bm n (Rows.laid_chandlery_span_ops (H := Unit))
theorem qL9.below {w w' : World} (h : qL9 w) (hb : Below w.heap.size w w') : qL9 w' := by
 obtain ⟨h0, bm, n, hc, hg, hl, ho⟩ := h;exact ⟨Nat.lt_of_lt_of_le h0 hb.size, bm, n, (hb.cell (p := ⟨2, 0, none⟩) hg).trans hc, Nat.lt_of_lt_of_le hg hb.size, Nat.lt_of_lt_of_le hl hb.size, ho.kept (qA5 hb) (by simp)⟩
theorem qTV : Maps.Keyed Tryz.prog 9 := Maps.string_keyed Tryz.underlying9
def qDC (n : Int) : qAK := if n = 1 then [60] else if n = 2 then [61] else if n = 3 then [60, 61] else if n = 4 then [62] else if n = 6 then [62, 61] else []
def qJQ (n : Int) : Bool := n == 0 || n == 1 || n == 2 || n == 3 || n == 4 || n == 6
theorem qTR (x : qAK) (c : Int) (h : (Rows.laid_chandlery_span_ops (H := Unit)).atKey (.string x) .nil = .lit (.int .u8 c)) :
  (x = [] /\ c = 0) \/ (x = [60] /\ c = 1) \/ (x = [60, 61] /\ c = 3) \/ (x = [61] /\ c = 2) \/ (x = [62] /\ c = 4) \/ (x = [62, 61] /\ c = 6) := by
 unfold Rows.laid_chandlery_span_ops DataW.atKey at h;simp only [List.find?_cons, Lit.sameKey, List.find?_nil] at h;by_cases h0 : x = []
 ·subst h0; simp at h; simp [h]
 by_cases h1 : x = [60]
 ·subst h1; simp at h; simp [h]
 by_cases h2 : x = [60, 61]
 ·subst h2; simp at h; simp [h]
 by_cases h3 : x = [61]
 ·subst h3; simp at h; simp [h]
 by_cases h4 : x = [62]
 ·subst h4; simp at h; simp [h]
 by_cases h5 : x = [62, 61]
 ·subst h5; simp at h; simp [h]
 ·have b0 : (([] : qAK) == x) = false := by simpa using Ne.symm h0
  have b1 : (([60] : qAK) == x) = false := by simpa using Ne.symm h1
  have b2 : (([60, 61] : qAK) == x) = false := by simpa using Ne.symm h2
  have b3 : (([61] : qAK) == x) = false := by simpa using Ne.symm h3
  have b4 : (([62] : qAK) == x) = false := by simpa using Ne.symm h4
  have b5 : (([62, 61] : qAK) == x) = false := by simpa using Ne.symm h5
  rw [b0, b1, b2, b3, b4, b5] at h;cases h
def qJI (op : Int) (left : Lit -> Bool) : Prop := op = 1 \/ op = 2 \/ op = 3 \/ op = 4 \/ op = 6 -> left (.string (qDC op)) = true
theorem qR9 {op : Int} (h : ¬ (op = 1 \/ op = 2 \/ op = 3 \/ op = 4 \/ op = 6)) : qDC op = [] := by
 unfold qDC;rw [if_neg (fun e => h (by simp [e])), if_neg (fun e => h (by simp [e])), if_neg (fun e => h (by simp [e])), if_neg (fun e => h (by simp [e])), if_neg (fun e => h (by simp [e]))]
theorem qJD (op : Int) : qJI op (Maps.has (Rows.laid_chandlery_span_ops (H := Unit))) := by
 intro h;rcases h with rfl | rfl | rfl | rfl | rfl <;> rfl
theorem qNB {op : Int} {left : Lit -> Bool} (h : qJI op left) (hl : ∀ kl, left kl = false) : qDC op = [] := by
 by_cases e : op = 1 \/ op = 2 \/ op = 3 \/ op = 4 \/ op = 6
 ·have := h e; rw [hl] at this; cases this
 ·exact qR9 e
theorem qLB {op c : Int} {x : qAK} {left : Lit -> Bool} (h : qJI op left) (hat : (Rows.laid_chandlery_span_ops (H := Unit)).atKey (.string x) .nil = .lit (.int .u8 c)) (hne : ¬ c = op) :
  qJI op (fun z => left z && !z.sameKey (.string x)) := by
 intro e;have h1 := h e;have h2 := qTR x c hat;simp only [h1, Bool.true_and, Bool.not_eq_true'];show (qDC op == x) = false;rw [beq_eq_false_iff_ne];rintro rfl;rcases e with rfl | rfl | rfl | rfl | rfl <;> simp [qDC] at h2 <;> exact hne h2
theorem qMT {c : Int} {x : qAK} (hat : (Rows.laid_chandlery_span_ops (H := Unit)).atKey (.string x) .nil = .lit (.int .u8 c)) : x = qDC c := by
 rcases qTR x c hat with ⟨rfl, rfl⟩ | ⟨rfl, rfl⟩ | ⟨rfl, rfl⟩ | ⟨rfl, rfl⟩ | ⟨rfl, rfl⟩ | ⟨rfl, rfl⟩ <;> rfl
theorem qIH {P : Program} {k : TypeId} (hk : P.underlying k = some .string) {key : Value} {kl : Lit} (h : keyOf P k key = some kl) : ∃ x : qAK, key = .string (bs x) /\ kl = .string x := by
 cases key <;> simp [keyOf, hk, mapKey] at h
 rename_i s
 obtain ⟨hs, rfl⟩ := h;exact ⟨s.toList, by rw [qBX], by rw [Lib.toList_data]⟩
theorem qGY {P : Program} (w : World) {ops : Array Oper} {rest : List Oper} {o : Oper} {a : Act} {Q : Exit -> Act -> World -> Prop}
  (hg : o.guard = none) (it : Operand) (hop : o.op = Op.next it false) (k e : TypeId) (K : Maps.Keyed P k) (hk : P.underlying k = some .string) (he : P.underlying e = some (.int .u8))
  (b r n : Nat) (D : DataW Unit) (left : Lit -> Bool) (cnt : Nat) (hit : a.eval it = .pointer (some ⟨r, 0, none⟩)) (h : w.ranges P k (plainElem P e) b r n D left cnt)
  (hDone : cnt = 0 -> (∀ kl, left kl = false) -> wpList P ops Q rest (a.put o.dst (.tuple #[.bool false])) w)
  (hMore : ∀ (x : qAK) (c : Int) (w' : World) (cnt' : Nat), left (.string x) = true -> D.atKey (.string x) .nil = .lit (.int .u8 c) -> w'.ranges P k (plainElem P e) b r n D (fun z => left z && !z.sameKey (.string x)) cnt' -> cnt' < cnt ->
   w.grownBy w' (some r) -> w'.heap.size = w.heap.size -> (Instr.entry (.pointer (some ⟨r, 0, none⟩))).run P w' = .ok (.tuple #[.string (bs x), .int .u8 c]) w' -> wpList P ops Q rest (a.put o.dst (.tuple #[.bool true, .string (bs x), .int .u8 c])) w') :
  wpList P ops Q (o :: rest) a w :=
 wpList_next_ranges w hg it hop k K (plainElem P e) (fun l : qAK => Value.string (bs l)) (Value.int .u8) (fun key kl hkey => by obtain ⟨x, rfl, _⟩ := qIH hk hkey; exact ⟨x, rfl⟩) (fun v y hv => by obtain ⟨c, rfl, _⟩ := plainElem_int_inv he hv; exact ⟨c, rfl⟩)
  b r n D left cnt hit h hDone (fun x c kl y w' cnt' hkey hlk hv hat hrg hlt hgr hsz hen => by
   obtain ⟨x', ex, rfl⟩ := qIH hk hkey;obtain rfl : x = x' := qW3 (by injection ex);obtain ⟨c', ec, rfl, hwc⟩ := plainElem_int_inv he hv;cases ec
   exact hMore x c w' cnt' hlk (hat .nil) hrg hlt hgr hsz hen)
theorem qSQ (op : Int) (w : World) (hO : qL9 w) : Calls Tryz.prog 188 #[.int .u8 op] w fun e w' => e = .returned (.string (bs (qDC op))) /\ Below w.heap.size w w' := by
 obtain ⟨_, bm, n, hc, _, hl, hown⟩ := hO
 go_enter Tryz.func188, Tryz.ntmps188
 go_wp2_with (first | (at_range; refine wpList_range_own _ rfl _ 227 rfl 9 5 qTV Tryz.underlying227 _ bm n _ rfl hown ?_; intro w0 hrg0 hg0 hs0) | fail)
 go_frame
 have B0 : Below w.heap.size w w0 := ⟨hg0.os, hg0.tape, hg0.output, hg0.size, fun k hk => hg0.block k hk (by simp)⟩
 go_loopw [3] (fun _ wr => ∃ left cnt, wr.ranges Tryz.prog 9 (plainElem Tryz.prog 5) bm w.heap.size n (Rows.laid_chandlery_span_ops (H := Unit)) left cnt /\ RowKit.Hid (qJI op left) /\ Below w.heap.size w wr) (fun _ wr => wr.rangeLeft bm w.heap.size)
 case atStart => exact ⟨_, _, hrg0, hid (qJD op), B0⟩
 case round =>
  obtain ⟨left, cnt, hrg, hT, hB⟩ := hrel;go_wp2_with (first | (at_next; refine qGY _ rfl _ rfl 9 5 qTV Tryz.underlying9 Tryz.underlying5 bm w.heap.size n _ _ _ rfl hrg ?_ ?_) | fail)
  ·intro _ hl0;have H := hid (qNB hT.out hl0);clear hl0 hT;go_wp2
   go_ret;exact ⟨qFW (by rw [H.out]; rfl), hB⟩
  ·intro x c w1 cnt1 _ hat hrg1 hlt hg1 hs1 hen;have hB1 : Below w.heap.size w w1 := hB.grown hg1 (by have := hB.size; omega) (fun k e => by cases e; exact Nat.le_refl _);clear hs1 hg1;by_cases e : c = op
   ·have H := hid (qMT hat);subst e;clear hat hT hrg1 hrg;go_wp2
    go_ret;exact ⟨qFW (by rw [H.out]), hB1⟩
   ·have H := hid (qLB hT.out hat e);have e2 : (c == op) = false := by simpa using e
    clear hat hT;go_wp2
    go_roundw
    case rel => exact ⟨_, _, hrg1, H, hB1⟩
    case measure => rw [hrg1.left_eq, hrg.left_eq]; omega
theorem qUT (op : Int) (w : World) (hO : qL9 w) : Calls Tryz.prog 145 #[.int .u8 op] w fun e w' => e = .returned (.bool (qJQ op)) /\ Below w.heap.size w w' := by
 have T := hid (qSQ op w hO);have hm : qJQ op = (op == 0 || !(qDC op).isEmpty) := by
  unfold qJQ qDC;by_cases h0 : op = 0
  ·simp [h0]
  by_cases h1 : op = 1
  ·simp [h1]
  by_cases h2 : op = 2
  ·simp [h2]
  by_cases h3 : op = 3
  ·simp [h3]
  by_cases h4 : op = 4
  ·simp [h4]
  by_cases h6 : op = 6
  ·simp [h6]
  ·have b : ∀ k : Int, ¬ op = k -> (op == k) = false := fun k h => by simpa using h
   simp [h1, h2, h3, h4, h6, b 1 h1, b 2 h2, b 3 h3, b 4 h4, b 6 h6]
 have H := hid hm;clear hm hO;generalize qJQ op = r at *;by_cases h0 : op = 0
 ·subst h0
  go_enter Tryz.func145, Tryz.ntmps145
  go_wp2
  go_ret;exact ⟨qAA (by rw [H.out]; rfl), Below.refl _ _⟩
 ·have e0 : (op == 0) = false := by simpa using h0
  generalize qDC op = t at *;have H2 := hid (H.out.trans (by rw [e0, Bool.false_or]));clear H
  cases ht : t with
  | nil =>
   subst ht;have f1 : (bs []).toList = [] := qA4 []
   go_enter Tryz.func145, Tryz.ntmps145
   go_wp2_with fail
   go_at_call 188
   refine T.out.mono ?_;rintro e w5 ⟨rfl, h⟩;go_wp2
   go_ret;exact ⟨qAA (by rw [H2.out]; rfl), h⟩
  | cons c r =>
   have f1 : ¬ (bs t).toList = [] := by rw [qA4, ht]; simp
   have f2 : (bs t).toList.isEmpty = false := by rw [qA4, ht]; rfl
   have H3 := hid (H2.out.trans (show (!t.isEmpty) = true by rw [ht]; rfl));clear H2 ht
   go_enter Tryz.func145, Tryz.ntmps145
   go_wp2_with fail
   go_at_call 188
   refine T.out.mono ?_;rintro e w5 ⟨rfl, h⟩;go_wp2
   go_ret;exact ⟨qAA H3.out.symm, h⟩
end
section
open Go.RowKit
def sgnI (n : Int) : Bool := decide ((97 <= n /\ n <= 122) \/ (65 <= n /\ n <= 90) \/ (48 <= n /\ n <= 57) \/ n = 46 \/ n = 95 \/ n = 43 \/ n = 45 \/ n = 47 \/ n = 58 \/ n = 64 \/ n = 126 \/ n = 94)
def sgn (c : UInt8) : Bool := sgnI (c.toNat : Int)
def qDI : List qAK := [[97, 110, 100], [111, 114], [105, 102], [101, 108, 115, 101], [117, 110, 108, 101, 115, 115], [119, 105, 116, 104], [119, 105, 116, 104, 111, 117, 116]]
def qBW (l : qAK) : Bool := decide (1 <= l.length) && (decide (l.length <= 64) && (l.all sgn && !qDI.contains l))
def qCK (l : qAK) : Bool := qBW l && (l.head? == some 47)
def qFA (e : Evr) : Bool := e.epoch == 0 && (e.ver.isEmpty && e.rel.isEmpty)
def qAQ (d : Dp) : Bool := qBW d.name && (qJQ d.op && (if d.op = 0 then qFA d.evr else !qCK d.name && mayB d.evr true))
theorem qDP {l : qAK} : qBW l = true ↔ 1 <= l.length /\ l.length <= 64 /\ (∀ c ∈ l, sgn c = true) /\ l ∉ qDI := by
 unfold qBW; simp [List.all_eq_true]
