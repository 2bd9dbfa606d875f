/- DepOfL, DepLaw, VmLaw, SpHas -/
import Derived.Test.YtcpjignlhlcnpaaDoorPkgNamesRowG14
import Derived.Test.YtcpjignlhlcnpaaDoorPkgNamesRowG01
import Derived.Test.YtcpjignlhlcnpaaDoorPkgNamesRowG10
import Derived.Test.YtcpjignlhlcnpaaDoorPkgNamesRowG06
import Derived.Test.YtcpjignlhlcnpaaDoorPkgNamesRowG08
import Derived.Lib.SplitLaws
import Derived.RegionTactic
import Derived.ChangeAlike
import Derived.Deep.RegionHeld3
import Derived.Laws.IdiomStrings
import Derived.Deep.QuietTactic
import Derived.BigQuiet
import Derived.Maps.AppendAt
set_option linter.unusedSimpArgs false
set_option linter.unusedVariables false
namespace Go.Proofs.YtcpjignlhlcnpaaDoor
section
/- Walks: the dependency of words. -/



open Go.RowKit Go.Shelf
set_option linter.unusedVariables false

def ZV : Value := .tuple #[.agg #[.string ⟨#[]⟩, .int .u8 0, .int .i64 0, .string ⟨#[]⟩, .string ⟨#[]⟩], .int .i64 4]
end
section
/- Walks: what the statements of dep ask first (long, awake); a dependency of its own. -/





open Go.RowKit Go.Shelf

set_option maxRecDepth 100000 in
set_option maxHeartbeats 16000000 in
theorem down_any (s : ByteArray) (e : Evr) (w : World) : Calls Tryd.prog 57 #[.string s, e.val] w fun r w' => r = .returned (.agg #[.string s, .int .u8 2, .int .i64 e.epoch, .string (bs e.ver), .string (bs e.rel)]) ∧ Below w.heap.size w w' := by
  unfold Evr.val
  go_enter Tryd.func57, Tryd.ntmps57
  go_wp2_with fail
  exact bodyPost_ret (v := .agg #[.string s, .int .u8 2, .int .i64 e.epoch, .string (bs e.ver), .string (bs e.rel)]) (by simp [results, Tryd.results57, go_sem]) rfl ⟨rfl, ((Below.refl _ _).alloc (Nat.le_refl _) _).alloc (by simp) _⟩
end
section
/- The order of versions, in plain terms: turned about, of three, what stands ahead, what stands behind. -/


open Go.RowKit

/-- two rows of parts, the end behind each -/
def cm : List Prt → List Prt → Int
  | [], [] => 0
  | [], b :: _ => cmpP fin b
  | a :: _, [] => cmpP a fin
  | a :: x, b :: y => if cmpP a b ≠ 0 then cmpP a b else cm x y
theorem cm_eq : ∀ x y : List Prt, cmpV (x ++ [fin]) (y ++ [fin]) = cm x y
  | [], [] => by decide
  | [], b :: y => by
    simp only [List.nil_append, List.cons_append, cmpV, cm]
    split
    · rfl
    · rename_i h; exact (Classical.not_not.1 h).symm
  | a :: x, [] => by
    simp only [List.nil_append, List.cons_append, cmpV, cm]
    split
    · rfl
    · rename_i h
      have : cmpV (x ++ [fin]) [] = 0 := by cases x <;> rfl
      rw [this]; exact (Classical.not_not.1 h).symm
  | a :: x, b :: y => by
    simp only [List.cons_append, cmpV, cm, cm_eq x y]
theorem comp_cm (a b : Bytes) : comp a b = cm (pts a) (pts b) := cm_eq _ _
theorem cm_three : ∀ x y : List Prt, cm x y = -1 ∨ cm x y = 0 ∨ cm x y = 1
  | [], [] => .inr (.inl rfl)
  | [], b :: y => cmpP_cases _ _
  | a :: x, [] => cmpP_cases _ _
  | a :: x, b :: y => by
    simp only [cm]
    split
    · exact cmpP_cases _ _
    · exact cm_three x y
theorem comp_three (a b : Bytes) : comp a b = -1 ∨ comp a b = 0 ∨ comp a b = 1 := by rw [comp_cm]; exact cm_three _ _
/- a byte that is no part, ahead, between, behind -/
end
section
/- Walks: span.side, Has, Meet. -/




open Go.RowKit Go.Shelf

theorem op_mod : ∀ n : Fin 256, ((n.val : Int).tmod 8 == 0) = (bits BinOp.and IntKind.u8 (n.val : Int) 7 == 0) := by decide +kernel
theorem op_mod' {n : Int} (h0 : 0 ≤ n) (h1 : n ≤ 255) : (n.tmod 8 == 0) = (bits BinOp.and IntKind.u8 n 7 == 0) := by
  have := op_mod ⟨n.toNat, by omega⟩
  simpa [Int.toNat_of_nonneg h0] using this
set_option maxRecDepth 100000 in
set_option maxHeartbeats 2000000 in
theorem side_any (n : Int) (w : World) (h : n = -1 ∨ n = 0 ∨ n = 1) : Calls Tryd.prog 61 #[.int .i64 n] w fun e w' => e = .returned (.int .u8 (sideI n)) ∧ w = w' := by
  have i0 : ∀ w : World, (Instr.index 92 (.agg #[.int .u8 1, .int .u8 2, .int .u8 4]) (.int .i64 0)).run Tryd.prog w = .ok (.int .u8 1) w := fun _ => by kernel_rfl
  have i1 : ∀ w : World, (Instr.index 92 (.agg #[.int .u8 1, .int .u8 2, .int .u8 4]) (.int .i64 1)).run Tryd.prog w = .ok (.int .u8 2) w := fun _ => by kernel_rfl
  have i2 : ∀ w : World, (Instr.index 92 (.agg #[.int .u8 1, .int .u8 2, .int .u8 4]) (.int .i64 2)).run Tryd.prog w = .ok (.int .u8 4) w := fun _ => by kernel_rfl
  rcases h with rfl | rfl | rfl
  all_goals
    go_enter Tryd.func61, Tryd.ntmps61
    go_wp2
    go_ret
    exact ⟨rfl, rfl⟩
theorem ecmp_three (a b : Evr) : ecmp a b = -1 ∨ ecmp a b = 0 ∨ ecmp a b = 1 := by
  unfold ecmp
  split
  · exact cmpI_three _ _
  split
  · exact comp_three _ _
  · exact comp_three _ _
def BoxD (d : Dp) (b : Nat) (W : World) : Prop := W.cell? ⟨b, 1, none⟩ = some (.int .u8 d.op) ∧ W.cell? ⟨b, 2, none⟩ = some (.int .i64 d.evr.epoch) ∧ W.cell? ⟨b, 3, none⟩ = some (.string (bs d.evr.ver)) ∧ W.cell? ⟨b, 4, none⟩ = some (.string (bs d.evr.rel))
theorem boxes_dd (w : World) (d e : Dp) : let W := (w.alloc (.cells #[.string (bs d.name), .int .u8 d.op, .int .i64 d.evr.epoch, .string (bs d.evr.ver), .string (bs d.evr.rel)] 25)).alloc (.cells #[.string (bs e.name), .int .u8 e.op, .int .i64 e.evr.epoch, .string (bs e.evr.ver), .string (bs e.evr.rel)] 25)
    BoxD d w.heap.size W ∧ BoxD e (w.heap.size + 1) W ∧ w.heap.size + 1 < W.heap.size ∧ Below w.heap.size w W := by
  refine ⟨⟨?_, ?_, ?_, ?_⟩, ⟨?_, ?_, ?_, ?_⟩, by simp, ((Below.refl _ _).alloc (Nat.le_refl _) _).alloc (by simp) _⟩
  all_goals first | exact (World.cell?_alloc_past _ _ _ (by simp)).trans ((World.cell?_alloc_at _ _ _ _ rfl).trans rfl) | exact (World.cell?_alloc_at _ _ _ _ (by simp)).trans rfl
theorem side_p (k : Int) (w : World) (e : k = 1) : Calls Tryd.prog 61 #[.int .i64 k] w fun e w' => e = .returned (.int .u8 4) ∧ w = w' := by
  subst e; exact side_any 1 w (by decide)
theorem side_m (k : Int) (w : World) (e : k = -1) : Calls Tryd.prog 61 #[.int .i64 k] w fun e w' => e = .returned (.int .u8 1) ∧ w = w' := by
  subst e; exact side_any (-1) w (by decide)
def meet0 (a b : Dp) (c : Int) : Bool := bits BinOp.and IntKind.u8 a.op 7 == 0 || (bits BinOp.and IntKind.u8 b.op 7 == 0 ||
  (if c = 0 then bits BinOp.and IntKind.u8 (bits BinOp.and IntKind.u8 a.op b.op) 7 != 0 else bits BinOp.and IntKind.u8 a.op (sideI (-c)) != 0 || bits BinOp.and IntKind.u8 b.op (sideI c) != 0))
theorem meet0_eq {a b : Dp} (h0 : 0 ≤ a.op) (h1 : a.op ≤ 255) (h2 : 0 ≤ b.op) (h3 : b.op ≤ 255) : meetP a b = meet0 a b (ecmp a.evr b.evr) := by
  unfold meetP meet0 band
  rw [op_mod' h0 h1, op_mod' h2 h3]
  rcases ecmp_three a.evr b.evr with e | e | e <;> rw [e] <;> rfl
set_option maxRecDepth 100000 in
set_option maxHeartbeats 2000000 in
theorem meet_any (a b : Dp) (w : World) (ha : a.evr.ok) (hb : b.evr.ok) (h0 : 0 ≤ a.op) (h1 : a.op ≤ 255) (h2 : 0 ≤ b.op) (h3 : b.op ≤ 255) : Calls Tryd.prog 56 #[a.val, b.val] w fun e w' => e = .returned (.bool (meetP a b)) ∧ Below w.heap.size w w' := by
  obtain ⟨⟨a0, a1, a2, a3⟩, ⟨b0, b1, b2, b3⟩, hl, hB⟩ := boxes_dd w a b
  have C := Lib.hid (fun W => evr_any a.evr b.evr W ha.1 hb.1 ha.2 hb.2)
  have H := Lib.hid ((meet0_eq h0 h1 h2 h3).trans (show meet0 a b (ecmp a.evr b.evr) = _ from rfl))
  unfold meet0 at H
  clear h0 h1 h2 h3
  have hth := ecmp_three a.evr b.evr
  generalize meetP a b = res at *
  generalize ecmp a.evr b.evr = c at *
  unfold Evr.val at C
  unfold Dp.val
  have e1 : bits BinOp.and IntKind.u8 a.op 7 = 0 ∨ ¬ bits BinOp.and IntKind.u8 a.op 7 = 0 := by omega
  have e2 : bits BinOp.and IntKind.u8 b.op 7 = 0 ∨ ¬ bits BinOp.and IntKind.u8 b.op 7 = 0 := by omega
  rcases e1 with e1 | e1
  · have H2 := Lib.hid (show res = true by rw [H.out, e1]; rfl)
    go_enter Tryd.func56, Tryd.ntmps56
    go_wp2_with fail
    go_ret
    exact ⟨ret_bool H2.out.symm, hB⟩
  have f1 : (bits BinOp.and IntKind.u8 a.op 7 == 0) = false := by simpa using e1
  rcases e2 with e2 | e2
  · have H2 := Lib.hid (show res = true by rw [H.out, e2, f1]; rfl)
    go_enter Tryd.func56, Tryd.ntmps56
    go_wp2_with fail
    go_ret
    exact ⟨ret_bool H2.out.symm, hB⟩
  have f2 : (bits BinOp.and IntKind.u8 b.op 7 == 0) = false := by simpa using e2
  have H2 := Lib.hid (H.out.trans (by rw [f1, f2, Bool.false_or, Bool.false_or]))
  clear H
  go_enter Tryd.func56, Tryd.ntmps56
  go_wp2_with fail
  go_at_call 60
  generalize (w.alloc (.cells #[.string (bs a.name), .int .u8 a.op, .int .i64 a.evr.epoch, .string (bs a.evr.ver), .string (bs a.evr.rel)] 25)).alloc (.cells #[.string (bs b.name), .int .u8 b.op, .int .i64 b.evr.epoch, .string (bs b.evr.ver), .string (bs b.evr.rel)] 25) = W at *
  generalize hn : w.heap.size = n at *
  refine (C.out W).mono ?_
  rintro e w5 ⟨rfl, hb5⟩
  have c0 := (hb5.cell (p := ⟨n, 1, none⟩) (show n < W.heap.size by omega)).trans a0
  have d0 := (hb5.cell (p := ⟨n + 1, 1, none⟩) hl).trans b0
  have hB5 : Below n w w5 := hB.trans (hb5.mono (by omega))
  clear a0 a1 a2 a3 b0 b1 b2 b3 hb5 hB hl C
  have SP := Lib.hid (fun (k : Int) W (e : k = 1) => side_p k W e)
  have SM := Lib.hid (fun (k : Int) W (e : k = -1) => side_m k W e)
  rcases hth with rfl | rfl | rfl
  · cases g1 : bits BinOp.and IntKind.u8 a.op 4 == 0
    all_goals
      have H3 := Lib.hid (H2.out.trans (by rw [if_neg (by decide), show sideI (- (-1)) = 4 from rfl, show sideI (-1) = 1 from rfl]))
      have g2 : (bits BinOp.and IntKind.u8 a.op 4 != 0) = _ := congrArg (!·) g1
      simp only [Bool.not_true, Bool.not_false] at g2
      clear H2
      go_wp2_with fail
      go_quiet ((first | (go_at_call 61; exact (SP.out _ _ (by decide)).mono fun _ _ h => ⟨h.1, _, h.2.symm⟩) | (go_at_call 61; exact (SM.out _ _ (by decide)).mono fun _ _ h => ⟨h.1, _, h.2.symm⟩)))
      go_wp2
      go_ret
      exact ⟨ret_bool (by rw [H3.out, g2]; rfl), by rw [hn]; exact ⟨hB5.os, hB5.tape, hB5.output, hB5.size, hB5.block⟩⟩
  · have H3 := Lib.hid (H2.out.trans (by rw [if_pos rfl]))
    clear H2
    go_wp2_with fail
    go_ret
    exact ⟨ret_bool H3.out.symm, by rw [hn]; exact hB5⟩
  · cases g1 : bits BinOp.and IntKind.u8 a.op 1 == 0
    all_goals
      have H3 := Lib.hid (H2.out.trans (by rw [if_neg (by decide), show sideI (- 1) = 1 from rfl, show sideI 1 = 4 from rfl]))
      have g2 : (bits BinOp.and IntKind.u8 a.op 1 != 0) = _ := congrArg (!·) g1
      simp only [Bool.not_true, Bool.not_false] at g2
      clear H2
      go_wp2_with fail
      go_quiet ((first | (go_at_call 61; exact (SP.out _ _ (by decide)).mono fun _ _ h => ⟨h.1, _, h.2.symm⟩) | (go_at_call 61; exact (SM.out _ _ (by decide)).mono fun _ _ h => ⟨h.1, _, h.2.symm⟩)))
      go_wp2
      go_ret
      exact ⟨ret_bool (by rw [H3.out, g2]; rfl), by rw [hn]; exact ⟨hB5.os, hB5.tape, hB5.output, hB5.size, hB5.block⟩⟩
end
end Go.Proofs.YtcpjignlhlcnpaaDoor
