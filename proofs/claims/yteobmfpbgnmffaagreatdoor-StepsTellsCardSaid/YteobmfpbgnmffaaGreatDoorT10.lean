/- RegInv2, DepLaw, VmLaw, SpHas -/
import Derived.Test.YteobmfpbgnmffaaGreatDoorT09
set_option linter.unusedVariables false
set_option maxHeartbeats 16000000
set_option maxRecDepth 100000
open Go.Lib (hid)
set_option linter.unusedSimpArgs false
namespace Go.Proofs.YteobmfpbgnmffaaGreatDoor
open Go.RowKit Go.Shelf
section
section
variable {P : Program} {ops : Array Oper} {Q : Exit -> Act -> World -> Prop} {md : Region.Mode}
theorem qET (hb : qAY md ops = true) {i : Nat} {o : Oper} (hi : i < ops.size) (ho : ops[i]? = some o) {e : _} (he : e ∈ o.after) (hbd : Region.binds md e = true) : e.on < i := by
 unfold qAY at hb;have h1 := List.all_eq_true.1 hb i (List.mem_range.2 hi);rw [ho, Option.map_some, Option.getD_some] at h1;have h2 := Array.all_eq_true'.1 h1 e he
 simpa [hbd] using h2
theorem qE6 {R : Nat} {PP : Nat -> Value -> World -> Prop} {Fin Pre : World -> Prop} {id : Nat} {a : Act} {w : World} (n : Nat) (hn1 : ops.size = n + 1) (hm : P.follows .mixedOrders = true) (hb : qAY .any ops = true) (hn : (ops.toList.map (·.dst)).Nodup)
  (hmono : ∀ i v w w', PP i v w -> ButR R w w' -> PP i v w') (hfin : ∀ w w', Fin w -> Below w.heap.size w w' -> Fin w') (hpre : ∀ w w', Pre w -> Below w.heap.size w w' -> Pre w') (hfp : ∀ w, Fin w -> Pre w) (hp0 : Pre w) (vs0 : Nat -> Value) (h0 : qA2 ops.toList 0 vs0 a = a)
  (hstep : ∀ (i : Nat) (o : Oper) (vs : Nat -> Value) (w' : World), i < n -> ops[i]? = some o -> (∀ e ∈ o.after, Region.binds .any e = true -> PP e.on (vs e.on) w') -> ButR R w w' ->
   ∀ K : Act -> World -> Prop, (∀ v w'', PP i v w'' -> Below w'.heap.size w' w'' -> K ((qA2 ops.toList 0 vs a).put o.dst v) w'') -> if Region.wanted o (yielded ops (qA2 ops.toList 0 vs a).tmps) = true then Oper.wp P o (qA2 ops.toList 0 vs a) w' K Q else K ((qA2 ops.toList 0 vs a).put o.dst undef) w')
  (hlast : ∀ (o : Oper) (vs : Nat -> Value) (w' : World), Pre w' -> ops[n]? = some o -> (∀ e ∈ o.after, Region.binds .any e = true -> PP e.on (vs e.on) w') -> ButR R w w' ->
   ∀ K : Act -> World -> Prop, (∀ w'', Fin w'' -> ButR R w' w'' -> K ((qA2 ops.toList 0 vs a).put o.dst undef) w'') -> if Region.wanted o (yielded ops (qA2 ops.toList 0 vs a).tmps) = true then Oper.wp P o (qA2 ops.toList 0 vs a) w' K Q else K ((qA2 ops.toList 0 vs a).put o.dst undef) w')
  (hdone : ∀ vs w', Fin w' -> ButR R w w' -> Q .normal (qA2 ops.toList 0 vs a) w') : (Code.region id ops true).wp P Q a w := by
 refine qEF (J := fun listed a' w' => ∃ vs, a' = qA2 ops.toList 0 vs a /\ ButR R w w' /\ (∀ i, i < n -> listed.getD i false = true -> PP i (vs i) w') /\ (listed.getD n false = true -> Fin w') /\ Pre w') hm hb ⟨vs0, h0.symm, (ButR.refl _ _).drew, fun i _ hi => ?_, fun hi => ?_, hpre _ _ hp0 bR.drew⟩ ?_ ?_
 ·exfalso;by_cases h : i < ops.size
  iterate 2 ·simp [Array.getD, h] at hi
 ·exfalso;by_cases h : n < ops.size
  iterate 2 ·simp [Array.getD, h] at hi
 ·rintro i o listed a' w' hi ho hs he ⟨vs, rfl, hB, hP, hF, hR⟩ K hK;have put : ∀ j k : Nat, j ≠ k -> (listed.setIfInBounds j true).getD k false = true -> listed.getD k false = true := by
   intro j k hjk h;rw [Array.getD_eq_getD_getElem?] at h |-;rw [Array.getElem?_setIfInBounds] at h
   simpa [hjk] using h
  have ed : ∀ e ∈ o.after, Region.binds .any e = true -> PP e.on (vs e.on) w' := fun e hem hbd => hP _ (by have := qET hb hi ho hem hbd; omega) (he e hem hbd);by_cases hin : i < n
  ·refine hstep i o vs w' hin ho ed hB K (fun v w'' hv hb' => hK _ _ ⟨upd vs i v, ?_, hB.trans (.of hb'), fun j hjn hj => ?_, fun hj => ?_, hpre _ _ hR hb'⟩)
   ·have := qC5 ops.toList 0 vs a i o v (by simpa using ho) hn;rw [this]; simp
   ·by_cases hji : j = i
    ·subst hji; simp [upd]; exact hv
    ·simp only [upd, hji, if_false];exact hmono _ _ _ _ (hP j hjn (put i j (fun e => hji e.symm) hj)) (.of hb')
   ·exact hfin _ _ (hF (put i n (by omega) hj)) hb'
  ·obtain rfl : i = n := by omega
   refine hlast o vs w' hR ho ed hB K (fun w'' hv hb' => hK _ _ ⟨upd vs i undef, ?_, hB.trans hb', fun j hjn hj => ?_, fun _ => hv, hfp _ hv⟩)
   ·have := qC5 ops.toList 0 vs a i o undef (by simpa using ho) hn;rw [this]; simp
   ·have hji : j ≠ i := by omega
    simp only [upd, hji, if_false];exact hmono _ _ _ _ (hP j hjn (put i j (fun e => hji e.symm) hj)) hb'
 ·rintro a' w' ⟨vs, rfl, hB, hP, hF, _⟩;exact hdone vs w' (hF (by simp [Array.getD, hn1])) hB
end
section
variable {P : Program} {α : Type} {enc : α -> List Value} (w : World)
theorem qFX (base : Nat) (t ty e : TypeId) (i : TypeInfo) (z : Value) (size bytes : Nat) (ht : P.underlying t = some (.slice e)) (hi : P.info? e = some i) (hz : i.zero = some z) (hsize : i.size = size) (hby : i.bytes = bytes) (hzc : z.cells.size = size) (hs0 : 0 < size)
  (he : ∀ x, (enc x).length = size) (h1 : ∀ x, ∀ u ∈ enc x, u.oneCell' = true)
  (g : Nat) (hown : w.ownsRow base e size (.slice (some ⟨g, 0, none⟩) 0 0) 0 []) (B : Nat) (A : Option Addr) (c : Nat) (D : List α) (hT : Rd enc size B A c D w) (hn : D.length <= 1000000) (hbytes : bytes <= 1000) (hbase : base <= w.heap.size) :
  ∃ v' w', (Builtin.append_ #[t, t] ty #[.slice (some ⟨g, 0, none⟩) 0 0, .slice A D.length c]).run P w = .ok v' w' /\ w'.ownsRow base e size v' D.length (D.flatMap enc) /\ Below w.heap.size w w' := by
 by_cases hD : D = []
 ·subst hD
  cases A with
  | none => exact ⟨_, w, qE2 w base t ty e i size ht hi _ 0 [] hown c, hown, Below.refl _ _⟩
  | some ad =>
   have hr := run_append_room_cells (P := P) w t ty e i ht hi g 0 0 0 ad 0 c [] (by simp) (by simp) (by simp) (by omega) (by simp) (by simp);exact ⟨_, w, hr, hown, Below.refl _ _⟩
 ·have hp : 0 < D.length := List.length_pos_iff.2 hD;obtain ⟨b0, o0, e0, _⟩ := hT.2.2 0 hp;subst e0;obtain ⟨v', w', hr, r1, r2⟩ := run_append_arg_grows (P := P) w t ty e i z size bytes ht hi hz hsize hby hzc hs0 ⟨g, 0, none⟩ 0 0 [] (by simp) (by simp) ⟨b0, o0, none⟩ D.length c (D.flatMap enc) (qEL he D) (fun j u hu => by
   have hj : j < D.length * size := by
    have := (List.getElem?_eq_some_iff.1 hu).1;rw [qEL he] at this;exact this
   have hk : j / size < D.length := Nat.div_lt_of_lt_mul (by rw [Nat.mul_comm]; exact hj);obtain ⟨b, o, e2, _, hc⟩ := hT.2.2 (j / size) hk;cases e2
   rw [Addr.add_lit];have hd := Nat.div_add_mod j size;have h3 := qCR enc size he D (j / size) hk (j % size) (Nat.mod_lt _ hs0);rw [show j / size * size + j % size = j by rw [Nat.mul_comm]; exact hd, hu] at h3;have h4 := hc (j % size) u h3.symm;rw [show o0 + j / size * size + j % size = o0 + j by rw [Nat.add_assoc, Nat.mul_comm (j / size)]; rw [hd]] at h4;exact h4) (by omega) (by unfold maxLen; omega) (by rw [Nat.zero_add]; have := Nat.mul_le_mul hn hbytes; omega)
  refine ⟨v', w', hr, ?_, ⟨r2.os, r2.tape, r2.output, r2.size, fun k hk => r2.block k hk (by simp)⟩⟩;simp only [Nat.zero_add, List.nil_append] at r1;exact Own.more (enc := enc) (l := D) r1 hbase
theorem qCM {o : Oper} {a : Act} {K : Act -> World -> Prop} {Q : Exit -> Act -> World -> Prop} (s x : Operand) (t : TypeId)
  (ho : o.op = .call { callee := .builtin .append, args := #[s, x], argTypes := #[t, t] })
  (base : Nat) (e : TypeId) (i : TypeInfo) (z : Value) (size bytes : Nat) (ht : P.underlying t = some (.slice e)) (hi : P.info? e = some i) (hz : i.zero = some z) (hsize : i.size = size) (hby : i.bytes = bytes) (hzc : z.cells.size = size) (hs0 : 0 < size)
  (he : ∀ x, (enc x).length = size) (h1 : ∀ x, ∀ u ∈ enc x, u.oneCell' = true)
  (g : Nat) (hs : a.eval s = .slice (some ⟨g, 0, none⟩) 0 0) (hown : w.ownsRow base e size (.slice (some ⟨g, 0, none⟩) 0 0) 0 []) (B : Nat) (A : Option Addr) (c : Nat) (D : List α) (m : Nat) (hm : m = D.length) (hx : a.eval x = .slice A m c) (hT : Rd enc size B A c D w) (hn : D.length <= 1000000) (hbytes : bytes <= 1000) (hbase : base <= w.heap.size)
  (h : ∀ v' w', Own enc size base e v' D w' -> Below w.heap.size w w' -> K (a.put o.dst v') w') : Oper.wp P o a w K Q := by
 subst hm;obtain ⟨v', w', hrun, r1, r2⟩ := qFX (P := P) w base t o.type e i z size bytes ht hi hz hsize hby hzc hs0 he h1 g hown B A c D hT hn hbytes hbase;unfold Oper.wp;simp [execOp, ho, resolve, invoke, builtin, hs, hx, hrun, Result.andThen];exact h v' w' r1 r2
end
end
section
theorem qSI (s : ByteArray) (e : Evr) (w : World) : Calls Tryz.prog 167 #[.string s, e.val] w fun r w' => r = .returned (.agg #[.string s, .int .u8 2, .int .i64 e.epoch, .string (bs e.ver), .string (bs e.rel)]) /\ Below w.heap.size w w' := by
 unfold Evr.val
 go_enter Tryz.func167, Tryz.ntmps167
 go_wp2_with fail
 exact bodyPost_ret (v := .agg #[.string s, .int .u8 2, .int .i64 e.epoch, .string (bs e.ver), .string (bs e.rel)]) (by simp [results, Tryz.results167, go_sem]) rfl ⟨rfl, (bR.alloc lR _).alloc (by simp) _⟩
theorem qPM (s : ByteArray) (e : Evr) (w : World) : Calls Tryz.prog 216 #[.string s, e.val] w fun r w' => r = .returned (.agg #[.string s, .int .u8 2, .int .i64 e.epoch, .string (bs e.ver), .string (bs e.rel)]) /\ Below w.heap.size w w' := by
 unfold Evr.val
 go_enter Tryz.func216, Tryz.ntmps216
 go_wp2_with fail
 exact bodyPost_ret (v := .agg #[.string s, .int .u8 2, .int .i64 e.epoch, .string (bs e.ver), .string (bs e.rel)]) (by simp [results, Tryz.results216, go_sem]) rfl ⟨rfl, (bR.alloc lR _).alloc (by simp) _⟩
end
section
open Go.RowKit
def cm : List Prt -> List Prt -> Int
 | [], [] => 0
 | [], b :: _ => cmpP fin b
 | a :: _, [] => cmpP a fin
 | a :: x, b :: y => if cmpP a b ≠ 0 then cmpP a b else cm x y
theorem qVV : ∀ x y : List Prt, cmpV (x ++ [fin]) (y ++ [fin]) = cm x y
 | [], [] => by decide
 | [], b :: y => by
  simp only [List.nil_append, List.cons_append, cmpV, cm];split
  ·rfl
  ·rename_i h; exact (Classical.not_not.1 h).symm
 | a :: x, [] => by
  simp only [List.nil_append, List.cons_append, cmpV, cm];split
  ·rfl
  ·rename_i h
   have : cmpV (x ++ [fin]) [] = 0 := by cases x <;> rfl
   rw [this]; exact (Classical.not_not.1 h).symm
 | a :: x, b :: y => by
  simp only [List.cons_append, cmpV, cm, qVV x y]
theorem qU8 (a b : qAK) : comp a b = cm (pts a) (pts b) := qVV _ _
theorem qML : ∀ x y : List Prt, cm x y = -1 \/ cm x y = 0 \/ cm x y = 1
 | [], [] => .inr (.inl rfl)
 | [], b :: y => qDY _ _
 | a :: x, [] => qDY _ _
 | a :: x, b :: y => by
  simp only [cm];split
  ·exact qDY _ _
  ·exact qML x y
theorem qNR (a b : qAK) : comp a b = -1 \/ comp a b = 0 \/ comp a b = 1 := by rw [qU8]; exact qML _ _
end
section
theorem qVD : ∀ n : Fin 256, ((n.val : Int).tmod 8 == 0) = (bits BinOp.and IntKind.u8 (n.val : Int) 7 == 0) := by decide +kernel
theorem qP8 {n : Int} (h0 : 0 <= n) (h1 : n <= 255) : (n.tmod 8 == 0) = (bits BinOp.and IntKind.u8 n 7 == 0) := by
 have := qVD ⟨n.toNat, by omega⟩
 simpa [Int.toNat_of_nonneg h0] using this
theorem qMM (n : Int) (w : World) (h : n = -1 \/ n = 0 \/ n = 1) : Calls Tryz.prog 189 #[.int .i64 n] w fun e w' => e = .returned (.int .u8 (qKF n)) /\ w = w' := by
 have i0 : ∀ w : World, (Instr.index 228 (.agg #[.int .u8 1, .int .u8 2, .int .u8 4]) (.int .i64 0)).run Tryz.prog w = .ok (.int .u8 1) w := fun _ => by kernel_rfl
 have i1 : ∀ w : World, (Instr.index 228 (.agg #[.int .u8 1, .int .u8 2, .int .u8 4]) (.int .i64 1)).run Tryz.prog w = .ok (.int .u8 2) w := fun _ => by kernel_rfl
 have i2 : ∀ w : World, (Instr.index 228 (.agg #[.int .u8 1, .int .u8 2, .int .u8 4]) (.int .i64 2)).run Tryz.prog w = .ok (.int .u8 4) w := fun _ => by kernel_rfl
 rcases h with rfl | rfl | rfl
 all_goals
  go_enter Tryz.func189, Tryz.ntmps189
  go_wp2
  go_ret;exact ⟨rfl, rfl⟩
theorem qH7 (a b : Evr) : ecmp a b = -1 \/ ecmp a b = 0 \/ ecmp a b = 1 := by
 unfold ecmp;split
 ·exact qEY _ _
 split
 iterate 2 ·exact qNR _ _
def BoxD (d : Dp) (b : Nat) (W : World) : Prop := W.cell? ⟨b, 1, none⟩ = some (.int .u8 d.op) /\ W.cell? ⟨b, 2, none⟩ = some (.int .i64 d.evr.epoch) /\ W.cell? ⟨b, 3, none⟩ = some (.string (bs d.evr.ver)) /\ W.cell? ⟨b, 4, none⟩ = some (.string (bs d.evr.rel))
theorem qS1 (w : World) (d e : Dp) : let W := (w.alloc (.cells #[.string (bs d.name), .int .u8 d.op, .int .i64 d.evr.epoch, .string (bs d.evr.ver), .string (bs d.evr.rel)] 37)).alloc (.cells #[.string (bs e.name), .int .u8 e.op, .int .i64 e.evr.epoch, .string (bs e.evr.ver), .string (bs e.evr.rel)] 37)
  BoxD d w.heap.size W /\ BoxD e (w.heap.size + 1) W /\ w.heap.size + 1 < W.heap.size /\ Below w.heap.size w W := by
 refine ⟨⟨?_, ?_, ?_, ?_⟩, ⟨?_, ?_, ?_, ?_⟩, by simp, (bR.alloc lR _).alloc (by simp) _⟩
 all_goals first | exact (World.cell?_alloc_past _ _ _ (by simp)).trans ((World.cell?_alloc_at _ _ _ _ rfl).trans rfl) | exact (World.cell?_alloc_at _ _ _ _ (by simp)).trans rfl
theorem qVT (k : Int) (w : World) (e : k = 1) : Calls Tryz.prog 189 #[.int .i64 k] w fun e w' => e = .returned (.int .u8 4) /\ w = w' := by
 subst e; exact qMM 1 w (by decide)
theorem qVJ (k : Int) (w : World) (e : k = -1) : Calls Tryz.prog 189 #[.int .i64 k] w fun e w' => e = .returned (.int .u8 1) /\ w = w' := by
 subst e; exact qMM (-1) w (by decide)
def qRO (a b : Dp) (c : Int) : Bool := bits BinOp.and IntKind.u8 a.op 7 == 0 || (bits BinOp.and IntKind.u8 b.op 7 == 0 ||
 (if c = 0 then bits BinOp.and IntKind.u8 (bits BinOp.and IntKind.u8 a.op b.op) 7 != 0 else bits BinOp.and IntKind.u8 a.op (qKF (-c)) != 0 || bits BinOp.and IntKind.u8 b.op (qKF c) != 0))
theorem qS4 {a b : Dp} (h0 : 0 <= a.op) (h1 : a.op <= 255) (h2 : 0 <= b.op) (h3 : b.op <= 255) : qFB a b = qRO a b (ecmp a.evr b.evr) := by
 unfold qFB qRO band;rw [qP8 h0 h1, qP8 h2 h3];rcases qH7 a.evr b.evr with e | e | e <;> rw [e] <;> rfl
theorem qSB (a b : Dp) (w : World) (ha : a.evr.ok) (hb : b.evr.ok) (h0 : 0 <= a.op) (h1 : a.op <= 255) (h2 : 0 <= b.op) (h3 : b.op <= 255) : Calls Tryz.prog 147 #[a.val, b.val] w fun e w' => e = .returned (.bool (qFB a b)) /\ Below w.heap.size w w' := by
 obtain ⟨⟨a0, a1, a2, a3⟩, ⟨b0, b1, b2, b3⟩, hl, hB⟩ := qS1 w a b;have C := hid (fun W => qR8 a.evr b.evr W ha.1 hb.1 ha.2 hb.2);have H := hid ((qS4 h0 h1 h2 h3).trans (show qRO a b (ecmp a.evr b.evr) = _ from rfl));unfold qRO at H;clear h0 h1 h2 h3;have hth := qH7 a.evr b.evr;generalize qFB a b = res at *;generalize ecmp a.evr b.evr = c at *;unfold Evr.val at C;unfold Dp.val;have e1 : bits BinOp.and IntKind.u8 a.op 7 = 0 \/ ¬ bits BinOp.and IntKind.u8 a.op 7 = 0 := by omega
 have e2 : bits BinOp.and IntKind.u8 b.op 7 = 0 \/ ¬ bits BinOp.and IntKind.u8 b.op 7 = 0 := by omega
 rcases e1 with e1 | e1
 ·have H2 := hid (show res = true by rw [H.out, e1]; rfl)
  go_enter Tryz.func147, Tryz.ntmps147
  go_wp2_with fail
  go_ret;exact ⟨qAA H2.out.symm, hB⟩
 have f1 : (bits BinOp.and IntKind.u8 a.op 7 == 0) = false := by simpa using e1
 rcases e2 with e2 | e2
 ·have H2 := hid (show res = true by rw [H.out, e2, f1]; rfl)
  go_enter Tryz.func147, Tryz.ntmps147
  go_wp2_with fail
  go_ret;exact ⟨qAA H2.out.symm, hB⟩
 have f2 : (bits BinOp.and IntKind.u8 b.op 7 == 0) = false := by simpa using e2
 have H2 := hid (H.out.trans (by rw [f1, f2, Bool.false_or, Bool.false_or]));clear H
 go_enter Tryz.func147, Tryz.ntmps147
 go_wp2_with fail
 go_at_call 132
 generalize (w.alloc (.cells #[.string (bs a.name), .int .u8 a.op, .int .i64 a.evr.epoch, .string (bs a.evr.ver), .string (bs a.evr.rel)] 37)).alloc (.cells #[.string (bs b.name), .int .u8 b.op, .int .i64 b.evr.epoch, .string (bs b.evr.ver), .string (bs b.evr.rel)] 37) = W at *;generalize hn : w.heap.size = n at *;refine (C.out W).mono ?_;rintro e w5 ⟨rfl, hb5⟩;have c0 := (hb5.cell (p := ⟨n, 1, none⟩) (show n < W.heap.size by omega)).trans a0;have d0 := (hb5.cell (p := ⟨n + 1, 1, none⟩) hl).trans b0;have hB5 : Below n w w5 := hB.trans (hb5.mono (by omega));clear a0 a1 a2 a3 b0 b1 b2 b3 hb5 hB hl C;have SP := hid (fun (k : Int) W (e : k = 1) => qVT k W e);have SM := hid (fun (k : Int) W (e : k = -1) => qVJ k W e);rcases hth with rfl | rfl | rfl
 ·cases g1 : bits BinOp.and IntKind.u8 a.op 4 == 0
  all_goals
   have H3 := hid (H2.out.trans (by rw [if_neg (by decide), show qKF (- (-1)) = 4 from rfl, show qKF (-1) = 1 from rfl]));have g2 : (bits BinOp.and IntKind.u8 a.op 4 != 0) = _ := congrArg (!·) g1;simp only [Bool.not_true, Bool.not_false] at g2;clear H2;go_wp2_with fail
   go_quiet ((first | (go_at_call 189; exact (SP.out _ _ (by decide)).mono fun _ _ h => ⟨h.1, _, h.2.symm⟩) | (go_at_call 189; exact (SM.out _ _ (by decide)).mono fun _ _ h => ⟨h.1, _, h.2.symm⟩)));go_wp2
   go_ret;exact ⟨qAA (by rw [H3.out, g2]; rfl), by rw [hn]; exact ⟨hB5.os, hB5.tape, hB5.output, hB5.size, hB5.block⟩⟩
 ·have H3 := hid (H2.out.trans (by rw [if_pos rfl]));clear H2;go_wp2_with fail
  go_ret;exact ⟨qAA H3.out.symm, by rw [hn]; exact hB5⟩
 ·cases g1 : bits BinOp.and IntKind.u8 a.op 1 == 0
  all_goals
   have H3 := hid (H2.out.trans (by rw [if_neg (by decide), show qKF (- 1) = 1 from rfl, show qKF 1 = 4 from rfl]));have g2 : (bits BinOp.and IntKind.u8 a.op 1 != 0) = _ := congrArg (!·) g1;simp only [Bool.not_true, Bool.not_false] at g2;clear H2;go_wp2_with fail
   go_quiet ((first | (go_at_call 189; exact (SP.out _ _ (by decide)).mono fun _ _ h => ⟨h.1, _, h.2.symm⟩) | (go_at_call 189; exact (SM.out _ _ (by decide)).mono fun _ _ h => ⟨h.1, _, h.2.symm⟩)));go_wp2
   go_ret;exact ⟨qAA (by rw [H3.out, g2]; rfl), by rw [hn]; exact ⟨hB5.os, hB5.tape, hB5.output, hB5.size, hB5.block⟩⟩
