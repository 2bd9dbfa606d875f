/- RegInv, RegInv2, DepLaw, VmLaw, SpHas -/
import Derived.Test.YteobmfpbgnmffaaGreatDoorTruthMoreRowG05
import Derived.Test.YteobmfpbgnmffaaGreatDoorTruthMoreRowG08
import Derived.Test.YteobmfpbgnmffaaGreatDoorTruthMoreRowG06
import Derived.Test.YteobmfpbgnmffaaGreatDoorTruthMoreRowG10
import Derived.Test.YteobmfpbgnmffaaGreatDoorTruthMoreRowG04
import Derived.Orders
import Derived.OrdersHeld
import Derived.Deep.RegionHeld3
import Derived.ArgAppend
import Derived.RegionTactic
import Derived.ChangeAlike
import Derived.Maps.AppendAt
set_option linter.unusedSimpArgs false
set_option linter.unusedVariables false
namespace Go.Proofs.YteobmfpbgnmffaaGreatDoor
section
/- A region that draws its order and makes memory in many orders: an invariant that each operation keeps, told by which operations have come up, serves every order; each operation is walked once. -/





open Go.RowKit Go.Shelf

section
variable {P : Program} {ops : Array Oper} {Q : Exit → Act → World → Prop} {md : Region.Mode}
/-- every operation waits for earlier ones alone -/
def backEdges (md : Region.Mode) (ops : Array Oper) : Bool := (List.range ops.size).all fun i => ((ops[i]?).map fun o => o.after.all fun e => !Region.binds md e || decide (e.on < i)).getD false
def unlisted (l : Array Bool) : Nat := (l.toList.filter (· == false)).length
theorem unlisted_set : ∀ (l : List Bool) (i : Nat), l[i]? = some false → ((l.set i true).filter (· == false)).length + 1 = (l.filter (· == false)).length
  | [], i, h => by simp at h
  | b :: l, 0, h => by simp at h; subst h; simp
  | b :: l, i + 1, h => by
    have := unlisted_set l i (by simpa using h)
    rw [List.set_cons_succ, List.filter_cons, List.filter_cons]
    cases b <;> simp only [beq_self_eq_true, if_true, List.length_cons, show (true == false) = false from rfl, Bool.false_eq_true, if_false] <;> omega
theorem ready_mem {listed : Array Bool} {i : Nat} (h : i ∈ Region.ready md ops listed) : i < ops.size ∧ listed.getD i true = false ∧ ∃ o, ops[i]? = some o ∧ ∀ e ∈ o.after, Region.binds md e = true → listed.getD e.on false = true := by
  unfold Region.ready at h
  rw [List.mem_filter, List.mem_range] at h
  obtain ⟨h1, h2⟩ := h
  simp only [Bool.and_eq_true, Bool.not_eq_true'] at h2
  obtain ⟨h3, h4⟩ := h2
  refine ⟨h1, h3, ops[i], Array.getElem?_eq_getElem h1, fun e he hb => ?_⟩
  rw [Array.getElem?_eq_getElem h1, Option.map_some, Option.getD_some] at h4
  have h5 := Array.all_eq_true'.1 h4 e he
  simpa [hb] using h5
theorem ready_nil {listed : Array Bool} (hb : backEdges md ops = true) (hs : listed.size = ops.size) (h : Region.ready md ops listed = []) : ∀ i, i < ops.size → listed.getD i true = true := by
  intro i
  induction i using Nat.strongRecOn with
  | _ i ih =>
    intro hi
    refine Classical.byContradiction fun hn => ?_
    have hn' : listed.getD i true = false := by simpa using hn
    have hm : i ∈ Region.ready md ops listed := by
      unfold Region.ready
      rw [List.mem_filter, List.mem_range]
      refine ⟨hi, ?_⟩
      rw [hn', Array.getElem?_eq_getElem hi, Option.map_some, Option.getD_some]
      simp only [Bool.not_false, Bool.true_and]
      refine Array.all_eq_true'.2 fun e he => ?_
      unfold backEdges at hb
      have h1 := List.all_eq_true.1 hb i (List.mem_range.2 hi)
      rw [Array.getElem?_eq_getElem hi, Option.map_some, Option.getD_some] at h1
      have h2 := Array.all_eq_true'.1 h1 e he
      cases hbd : Region.binds md e with
      | false => simp
      | true =>
        simp [hbd] at h2
        have h3 := ih e.on h2 (by omega)
        have h4 : e.on < listed.size := by omega
        simp only [Array.getD, h4, dite_true] at h3 ⊢
        simpa using h3
    rw [h] at hm
    cases hm
theorem all_true {listed : Array Bool} {n : Nat} (hs : listed.size = n) (h : ∀ i, i < n → listed.getD i true = true) : listed = Array.replicate n true := by
  apply Array.ext
  · simp [hs]
  · intro i h1 h2
    have := h i (by omega)
    simp only [Array.getD, h1, dite_true] at this
    simpa using this
theorem unlisted_zero {l : List Bool} (h : (l.filter (· == false)).length = 0) : ∀ b ∈ l, b = true := by
  intro b hb
  cases b with
  | true => rfl
  | false =>
    have h1 : false ∈ l.filter (· == false) := List.mem_filter.2 ⟨hb, rfl⟩
    rw [List.eq_nil_of_length_eq_zero h] at h1
    cases h1
end
/- the frame's slots that the region's operations write, by the operations' numbers -/
def upd (vs : Nat → Value) (i : Nat) (v : Value) : Nat → Value := fun k => if k = i then v else vs k
def fillV : List Oper → Nat → (Nat → Value) → Act → Act
  | [], _, _, a => a
  | o :: l, k, vs, a => fillV l (k + 1) vs (a.put o.dst (vs k))
theorem put_put (a : Act) (d : Option Tmp) (u v : Value) : (a.put d u).put d v = a.put d v := by
  cases d with
  | none => rfl
  | some d =>
    show ({ a with tmps := (a.tmps.setIfInBounds d u).setIfInBounds d v } : Act) = { a with tmps := a.tmps.setIfInBounds d v }
    congr 1
    simp
theorem fillV_comm : ∀ (l : List Oper) (k : Nat) (vs : Nat → Value) (a : Act) (d : Option Tmp) (v : Value), (∀ o ∈ l, ∀ x, o.dst = some x → d ≠ some x) → (fillV l k vs a).put d v = fillV l k vs (a.put d v)
  | [], _, _, _, _, _, _ => rfl
  | o :: l, k, vs, a, d, v, h => by
    rw [fillV, fillV, fillV_comm l (k + 1) vs _ d v (fun o' ho => h o' (List.mem_cons_of_mem _ ho)), Act.put_comm a (vs k) v (fun x hx => h o (List.mem_cons_self ..) x hx)]
theorem fillV_congr : ∀ (l : List Oper) (k : Nat) (vs vs' : Nat → Value) (a : Act), (∀ j, k ≤ j → vs j = vs' j) → fillV l k vs a = fillV l k vs' a
  | [], _, _, _, _, _ => rfl
  | o :: l, k, vs, vs', a, h => by
    rw [fillV, fillV, h k (Nat.le_refl _), fillV_congr l (k + 1) vs vs' _ (fun j hj => h j (by omega))]
theorem fillV_put : ∀ (l : List Oper) (k : Nat) (vs : Nat → Value) (a : Act) (i : Nat) (o : Oper) (v : Value), l[i]? = some o → (l.map (·.dst)).Nodup → (fillV l k vs a).put o.dst v = fillV l k (upd vs (k + i) v) a
  | [], _, _, _, _, _, _, h, _ => by simp at h
  | o' :: l, k, vs, a, 0, o, v, h, hn => by
    have e : o' = o := by simpa using h
    subst e
    rw [List.map_cons, List.nodup_cons] at hn
    rw [fillV, fillV_comm l (k + 1) vs _ o'.dst v (fun o ho x hx hd => hn.1 (by rw [hd, ← hx]; exact List.mem_map_of_mem ho)), put_put, fillV]
    have e1 : upd vs (k + 0) v k = v := by simp [upd]
    rw [e1]
    exact fillV_congr l (k + 1) _ _ _ (fun j hj => by simp [upd]; omega)
  | o' :: l, k, vs, a, i + 1, o, v, h, hn => by
    rw [List.map_cons, List.nodup_cons] at hn
    rw [fillV, fillV, fillV_put l (k + 1) vs _ i o v (by simpa using h) hn.2]
    have e1 : upd vs (k + (i + 1)) v k = vs k := by simp [upd]
    rw [e1, show k + 1 + i = k + (i + 1) by omega]
section
variable {P : Program} {ops : Array Oper} {Q : Exit → Act → World → Prop}
end
end
section
/- A region that draws its order and makes memory in many orders, and stores at its end into a block of the call's own. -/





open Go.RowKit Go.Shelf

section
variable {P : Program} {ops : Array Oper} {Q : Exit → Act → World → Prop} {md : Region.Mode}
theorem back_lt (hb : backEdges md ops = true) {i : Nat} {o : Oper} (hi : i < ops.size) (ho : ops[i]? = some o) {e : _} (he : e ∈ o.after) (hbd : Region.binds md e = true) : e.on < i := by
  unfold backEdges at hb
  have h1 := List.all_eq_true.1 hb i (List.mem_range.2 hi)
  rw [ho, Option.map_some, Option.getD_some] at h1
  have h2 := Array.all_eq_true'.1 h1 e he
  simpa [hbd] using h2
end
section
variable {P : Program} {α : Type} {enc : α → List Value} (w : World)
end
end
section
/- Walks: what the statements of dep ask first (long, awake); a dependency of its own. -/





open Go.RowKit Go.Shelf

set_option maxRecDepth 100000 in
set_option maxHeartbeats 16000000 in
theorem down_any (s : ByteArray) (e : Evr) (w : World) : Calls Tryz.prog 167 #[.string s, e.val] w fun r w' => r = .returned (.agg #[.string s, .int .u8 2, .int .i64 e.epoch, .string (bs e.ver), .string (bs e.rel)]) ∧ Below w.heap.size w w' := by
  unfold Evr.val
  go_enter Tryz.func167, Tryz.ntmps167
  go_wp2_with fail
  exact bodyPost_ret (v := .agg #[.string s, .int .u8 2, .int .i64 e.epoch, .string (bs e.ver), .string (bs e.rel)]) (by simp [results, Tryz.results167, go_sem]) rfl ⟨rfl, ((Below.refl _ _).alloc (Nat.le_refl _) _).alloc (by simp) _⟩
end
section
/- The order of versions, in plain terms: turned about, of three, what stands ahead, what stands behind. -/


open Go.RowKit

/-- two rows of parts, the end behind each -/
def cm : List Prt → List Prt → Int
  | [], [] => 0
  | [], b :: _ => cmpP fin b
  | a :: _, [] => cmpP a fin
  | a :: x, b :: y => if cmpP a b ≠ 0 then cmpP a b else cm x y
theorem cm_eq : ∀ x y : List Prt, cmpV (x ++ [fin]) (y ++ [fin]) = cm x y
  | [], [] => by decide
  | [], b :: y => by
    simp only [List.nil_append, List.cons_append, cmpV, cm]
    split
    · rfl
    · rename_i h; exact (Classical.not_not.1 h).symm
  | a :: x, [] => by
    simp only [List.nil_append, List.cons_append, cmpV, cm]
    split
    · rfl
    · rename_i h
      have : cmpV (x ++ [fin]) [] = 0 := by cases x <;> rfl
      rw [this]; exact (Classical.not_not.1 h).symm
  | a :: x, b :: y => by
    simp only [List.cons_append, cmpV, cm, cm_eq x y]
theorem comp_cm (a b : Bytes) : comp a b = cm (pts a) (pts b) := cm_eq _ _
theorem cm_three : ∀ x y : List Prt, cm x y = -1 ∨ cm x y = 0 ∨ cm x y = 1
  | [], [] => .inr (.inl rfl)
  | [], b :: y => cmpP_cases _ _
  | a :: x, [] => cmpP_cases _ _
  | a :: x, b :: y => by
    simp only [cm]
    split
    · exact cmpP_cases _ _
    · exact cm_three x y
theorem comp_three (a b : Bytes) : comp a b = -1 ∨ comp a b = 0 ∨ comp a b = 1 := by rw [comp_cm]; exact cm_three _ _
/- a byte that is no part, ahead, between, behind -/
end
section
/- Walks: span.side, Has, Meet. -/




open Go.RowKit Go.Shelf

theorem op_mod : ∀ n : Fin 256, ((n.val : Int).tmod 8 == 0) = (bits BinOp.and IntKind.u8 (n.val : Int) 7 == 0) := by decide +kernel
theorem op_mod' {n : Int} (h0 : 0 ≤ n) (h1 : n ≤ 255) : (n.tmod 8 == 0) = (bits BinOp.and IntKind.u8 n 7 == 0) := by
  have := op_mod ⟨n.toNat, by omega⟩
  simpa [Int.toNat_of_nonneg h0] using this
set_option maxRecDepth 100000 in
set_option maxHeartbeats 2000000 in
theorem side_any (n : Int) (w : World) (h : n = -1 ∨ n = 0 ∨ n = 1) : Calls Tryz.prog 189 #[.int .i64 n] w fun e w' => e = .returned (.int .u8 (sideI n)) ∧ w = w' := by
  have i0 : ∀ w : World, (Instr.index 228 (.agg #[.int .u8 1, .int .u8 2, .int .u8 4]) (.int .i64 0)).run Tryz.prog w = .ok (.int .u8 1) w := fun _ => by kernel_rfl
  have i1 : ∀ w : World, (Instr.index 228 (.agg #[.int .u8 1, .int .u8 2, .int .u8 4]) (.int .i64 1)).run Tryz.prog w = .ok (.int .u8 2) w := fun _ => by kernel_rfl
  have i2 : ∀ w : World, (Instr.index 228 (.agg #[.int .u8 1, .int .u8 2, .int .u8 4]) (.int .i64 2)).run Tryz.prog w = .ok (.int .u8 4) w := fun _ => by kernel_rfl
  rcases h with rfl | rfl | rfl
  all_goals
    go_enter Tryz.func189, Tryz.ntmps189
    go_wp2
    go_ret
    exact ⟨rfl, rfl⟩
theorem ecmp_three (a b : Evr) : ecmp a b = -1 ∨ ecmp a b = 0 ∨ ecmp a b = 1 := by
  unfold ecmp
  split
  · exact cmpI_three _ _
  split
  · exact comp_three _ _
  · exact comp_three _ _
def BoxD (d : Dp) (b : Nat) (W : World) : Prop := W.cell? ⟨b, 1, none⟩ = some (.int .u8 d.op) ∧ W.cell? ⟨b, 2, none⟩ = some (.int .i64 d.evr.epoch) ∧ W.cell? ⟨b, 3, none⟩ = some (.string (bs d.evr.ver)) ∧ W.cell? ⟨b, 4, none⟩ = some (.string (bs d.evr.rel))
theorem boxes_dd (w : World) (d e : Dp) : let W := (w.alloc (.cells #[.string (bs d.name), .int .u8 d.op, .int .i64 d.evr.epoch, .string (bs d.evr.ver), .string (bs d.evr.rel)] 37)).alloc (.cells #[.string (bs e.name), .int .u8 e.op, .int .i64 e.evr.epoch, .string (bs e.evr.ver), .string (bs e.evr.rel)] 37)
    BoxD d w.heap.size W ∧ BoxD e (w.heap.size + 1) W ∧ w.heap.size + 1 < W.heap.size ∧ Below w.heap.size w W := by
  refine ⟨⟨?_, ?_, ?_, ?_⟩, ⟨?_, ?_, ?_, ?_⟩, by simp, ((Below.refl _ _).alloc (Nat.le_refl _) _).alloc (by simp) _⟩
  all_goals first | exact (World.cell?_alloc_past _ _ _ (by simp)).trans ((World.cell?_alloc_at _ _ _ _ rfl).trans rfl) | exact (World.cell?_alloc_at _ _ _ _ (by simp)).trans rfl
theorem side_p (k : Int) (w : World) (e : k = 1) : Calls Tryz.prog 189 #[.int .i64 k] w fun e w' => e = .returned (.int .u8 4) ∧ w = w' := by
  subst e; exact side_any 1 w (by decide)
theorem side_m (k : Int) (w : World) (e : k = -1) : Calls Tryz.prog 189 #[.int .i64 k] w fun e w' => e = .returned (.int .u8 1) ∧ w = w' := by
  subst e; exact side_any (-1) w (by decide)
def meet0 (a b : Dp) (c : Int) : Bool := bits BinOp.and IntKind.u8 a.op 7 == 0 || (bits BinOp.and IntKind.u8 b.op 7 == 0 ||
  (if c = 0 then bits BinOp.and IntKind.u8 (bits BinOp.and IntKind.u8 a.op b.op) 7 != 0 else bits BinOp.and IntKind.u8 a.op (sideI (-c)) != 0 || bits BinOp.and IntKind.u8 b.op (sideI c) != 0))
theorem meet0_eq {a b : Dp} (h0 : 0 ≤ a.op) (h1 : a.op ≤ 255) (h2 : 0 ≤ b.op) (h3 : b.op ≤ 255) : meetP a b = meet0 a b (ecmp a.evr b.evr) := by
  unfold meetP meet0 band
  rw [op_mod' h0 h1, op_mod' h2 h3]
  rcases ecmp_three a.evr b.evr with e | e | e <;> rw [e] <;> rfl
set_option maxRecDepth 100000 in
set_option maxHeartbeats 2000000 in
theorem meet_any (a b : Dp) (w : World) (ha : a.evr.ok) (hb : b.evr.ok) (h0 : 0 ≤ a.op) (h1 : a.op ≤ 255) (h2 : 0 ≤ b.op) (h3 : b.op ≤ 255) : Calls Tryz.prog 147 #[a.val, b.val] w fun e w' => e = .returned (.bool (meetP a b)) ∧ Below w.heap.size w w' := by
  obtain ⟨⟨a0, a1, a2, a3⟩, ⟨b0, b1, b2, b3⟩, hl, hB⟩ := boxes_dd w a b
  have C := Lib.hid (fun W => evr_any a.evr b.evr W ha.1 hb.1 ha.2 hb.2)
  have H := Lib.hid ((meet0_eq h0 h1 h2 h3).trans (show meet0 a b (ecmp a.evr b.evr) = _ from rfl))
  unfold meet0 at H
  clear h0 h1 h2 h3
  have hth := ecmp_three a.evr b.evr
  generalize meetP a b = res at *
  generalize ecmp a.evr b.evr = c at *
  unfold Evr.val at C
  unfold Dp.val
  have e1 : bits BinOp.and IntKind.u8 a.op 7 = 0 ∨ ¬ bits BinOp.and IntKind.u8 a.op 7 = 0 := by omega
  have e2 : bits BinOp.and IntKind.u8 b.op 7 = 0 ∨ ¬ bits BinOp.and IntKind.u8 b.op 7 = 0 := by omega
  rcases e1 with e1 | e1
  · have H2 := Lib.hid (show res = true by rw [H.out, e1]; rfl)
    go_enter Tryz.func147, Tryz.ntmps147
    go_wp2_with fail
    go_ret
    exact ⟨ret_bool H2.out.symm, hB⟩
  have f1 : (bits BinOp.and IntKind.u8 a.op 7 == 0) = false := by simpa using e1
  rcases e2 with e2 | e2
  · have H2 := Lib.hid (show res = true by rw [H.out, e2, f1]; rfl)
    go_enter Tryz.func147, Tryz.ntmps147
    go_wp2_with fail
    go_ret
    exact ⟨ret_bool H2.out.symm, hB⟩
  have f2 : (bits BinOp.and IntKind.u8 b.op 7 == 0) = false := by simpa using e2
  have H2 := Lib.hid (H.out.trans (by rw [f1, f2, Bool.false_or, Bool.false_or]))
  clear H
  go_enter Tryz.func147, Tryz.ntmps147
  go_wp2_with fail
  go_at_call 132
  generalize (w.alloc (.cells #[.string (bs a.name), .int .u8 a.op, .int .i64 a.evr.epoch, .string (bs a.evr.ver), .string (bs a.evr.rel)] 37)).alloc (.cells #[.string (bs b.name), .int .u8 b.op, .int .i64 b.evr.epoch, .string (bs b.evr.ver), .string (bs b.evr.rel)] 37) = W at *
  generalize hn : w.heap.size = n at *
  refine (C.out W).mono ?_
  rintro e w5 ⟨rfl, hb5⟩
  have c0 := (hb5.cell (p := ⟨n, 1, none⟩) (show n < W.heap.size by omega)).trans a0
  have d0 := (hb5.cell (p := ⟨n + 1, 1, none⟩) hl).trans b0
  have hB5 : Below n w w5 := hB.trans (hb5.mono (by omega))
  clear a0 a1 a2 a3 b0 b1 b2 b3 hb5 hB hl C
  have SP := Lib.hid (fun (k : Int) W (e : k = 1) => side_p k W e)
  have SM := Lib.hid (fun (k : Int) W (e : k = -1) => side_m k W e)
  rcases hth with rfl | rfl | rfl
  · cases g1 : bits BinOp.and IntKind.u8 a.op 4 == 0
    all_goals
      have H3 := Lib.hid (H2.out.trans (by rw [if_neg (by decide), show sideI (- (-1)) = 4 from rfl, show sideI (-1) = 1 from rfl]))
      have g2 : (bits BinOp.and IntKind.u8 a.op 4 != 0) = _ := congrArg (!·) g1
      simp only [Bool.not_true, Bool.not_false] at g2
      clear H2
      go_wp2_with fail
      go_quiet ((first | (go_at_call 189; exact (SP.out _ _ (by decide)).mono fun _ _ h => ⟨h.1, _, h.2.symm⟩) | (go_at_call 189; exact (SM.out _ _ (by decide)).mono fun _ _ h => ⟨h.1, _, h.2.symm⟩)))
      go_wp2
      go_ret
      exact ⟨ret_bool (by rw [H3.out, g2]; rfl), by rw [hn]; exact ⟨hB5.os, hB5.tape, hB5.output, hB5.size, hB5.block⟩⟩
  · have H3 := Lib.hid (H2.out.trans (by rw [if_pos rfl]))
    clear H2
    go_wp2_with fail
    go_ret
    exact ⟨ret_bool H3.out.symm, by rw [hn]; exact hB5⟩
  · cases g1 : bits BinOp.and IntKind.u8 a.op 1 == 0
    all_goals
      have H3 := Lib.hid (H2.out.trans (by rw [if_neg (by decide), show sideI (- 1) = 1 from rfl, show sideI 1 = 4 from rfl]))
      have g2 : (bits BinOp.and IntKind.u8 a.op 1 != 0) = _ := congrArg (!·) g1
      simp only [Bool.not_true, Bool.not_false] at g2
      clear H2
      go_wp2_with fail
      go_quiet ((first | (go_at_call 189; exact (SP.out _ _ (by decide)).mono fun _ _ h => ⟨h.1, _, h.2.symm⟩) | (go_at_call 189; exact (SM.out _ _ (by decide)).mono fun _ _ h => ⟨h.1, _, h.2.symm⟩)))
      go_wp2
      go_ret
      exact ⟨ret_bool (by rw [H3.out, g2]; rfl), by rw [hn]; exact ⟨hB5.os, hB5.tape, hB5.output, hB5.size, hB5.block⟩⟩
end
end Go.Proofs.YteobmfpbgnmffaaGreatDoor
