/- ShOf -/
import Derived.Test.YtcpjignlhlcnpaaDoorPkgNamesRowG22
import Derived.Test.YtcpjignlhlcnpaaDoorPkgNamesRowG25
import Derived.Deep.Cut
import Derived.Deep.WholeRow
set_option linter.unusedSimpArgs false
set_option linter.unusedVariables false
/- Walk: what a Kind asks (shape.of); which rich dependencies may be at a place, in plain terms. -/




namespace Go.Proofs.YtcpjignlhlcnpaaDoor
open Go.RowKit Go.Shelf
set_option linter.unusedVariables false

structure Ask where
  least : Int
  most : Int
  alone : Bool
  wh : Int
def askOf (k : Int) : Ask :=
  if k = 1 then ⟨0, 0, true, 3⟩ else if k = 2 ∨ k = 3 ∨ k = 6 then ⟨2, 24, true, 3⟩ else if k = 4 then ⟨2, 3, false, 1⟩ else if k = 5 then ⟨2, 3, false, 2⟩ else if k = 7 then ⟨2, 2, true, 3⟩ else ⟨0, 0, false, 0⟩
def askV (a : Ask) : Value := .agg #[.int .i64 a.least, .int .i64 a.most, .bool a.alone, .int .u8 a.wh]
/-- a whole array is stored into the block that was made last -/
theorem wpList_store_row {P : Program} {w : World} {ops : Array Oper} {rest : List Oper} {o : Oper} {a : Act} {Q : Exit → Act → World → Prop} (hgd : o.guard = none) (t : TypeId) (p x : Operand) (ho : o.op = .store t p x)
    (w0 : World) (c c' : Array Value) (hw : w = w0.alloc (.cells c t)) (b : Nat) (hb : b = w0.heap.size) (hp : a.eval p = .pointer (some ⟨b, 0, none⟩)) (hx : a.eval x = .agg c') (hi : (P.info? t).map (·.size) = some c'.size) (hc : c.size = c'.size) (h1 : c'.all (·.oneCell') = true)
    (h : wpList P ops Q rest (a.put o.dst undef) (w0.alloc (.cells c' t))) : wpList P ops Q (o :: rest) a w := by
  subst hw
  subst hb
  refine wpList_plain hgd fun K hK => ?_
  have hr := run_storeAt_new (P := P) w0 t c c' hi hc h1
  unfold Oper.wp
  simp only [execOp, ho, hp, hx]
  simp [hr, Result.andThen]
  exact hK _ _ h
theorem ask_world (w : World) (m : Nat) (hm : m < 8) : ∃ V, V = ((w.alloc (.cells #[.int .i64 0, .int .i64 0, .bool false, .int .u8 0] 71)).alloc (.cells #[.int .i64 0, .int .i64 0, .bool false, .int .u8 0, .int .i64 0, .int .i64 0, .bool true, .int .u8 3, .int .i64 2, .int .i64 24, .bool true, .int .u8 3, .int .i64 2, .int .i64 24, .bool true, .int .u8 3, .int .i64 2, .int .i64 3, .bool false, .int .u8 1, .int .i64 2, .int .i64 3, .bool false, .int .u8 2, .int .i64 2, .int .i64 24, .bool true, .int .u8 3, .int .i64 2, .int .i64 2, .bool true, .int .u8 3] 82)) ∧ V.heap.size = w.heap.size + 2 ∧ Below w.heap.size w V ∧
    (V.cell? ⟨w.heap.size + 1, m * 4, none⟩ = some (.int .i64 (askOf m).least) ∧ V.cell? ⟨w.heap.size + 1, m * 4 + 1, none⟩ = some (.int .i64 (askOf m).most) ∧ V.cell? ⟨w.heap.size + 1, m * 4 + 2, none⟩ = some (.bool (askOf m).alone) ∧ V.cell? ⟨w.heap.size + 1, m * 4 + 3, none⟩ = some (.int .u8 (askOf m).wh)) ∧
    (V.cell? ⟨w.heap.size, 0, none⟩ = some (.int .i64 0) ∧ V.cell? ⟨w.heap.size, 1, none⟩ = some (.int .i64 0) ∧ V.cell? ⟨w.heap.size, 2, none⟩ = some (.bool false) ∧ V.cell? ⟨w.heap.size, 3, none⟩ = some (.int .u8 0)) ∧
    (V.frozen? ⟨w.heap.size, 0, none⟩ = false ∧ V.frozen? ⟨w.heap.size, 1, none⟩ = false ∧ V.frozen? ⟨w.heap.size, 2, none⟩ = false ∧ V.frozen? ⟨w.heap.size, 3, none⟩ = false) := by
  have z1 : (w.alloc (.cells #[.int .i64 0, .int .i64 0, .bool false, .int .u8 0] 71)).heap.size = w.heap.size + 1 := by simp
  refine ⟨_, rfl, by rw [World.size_alloc, z1], ((Below.refl _ _).alloc (Nat.le_refl _) _).alloc (by rw [z1]; omega) _, ?_, ?_, ?_⟩
  · obtain rfl | rfl | rfl | rfl | rfl | rfl | rfl | rfl : m = 0 ∨ m = 1 ∨ m = 2 ∨ m = 3 ∨ m = 4 ∨ m = 5 ∨ m = 6 ∨ m = 7 := by omega
    all_goals exact ⟨(World.cell?_alloc_at _ _ _ _ z1.symm).trans rfl, (World.cell?_alloc_at _ _ _ _ z1.symm).trans rfl, (World.cell?_alloc_at _ _ _ _ z1.symm).trans rfl, (World.cell?_alloc_at _ _ _ _ z1.symm).trans rfl⟩
  · have h : ∀ i, ((w.alloc (.cells #[.int .i64 0, .int .i64 0, .bool false, .int .u8 0] 71)).alloc (.cells #[.int .i64 0, .int .i64 0, .bool false, .int .u8 0, .int .i64 0, .int .i64 0, .bool true, .int .u8 3, .int .i64 2, .int .i64 24, .bool true, .int .u8 3, .int .i64 2, .int .i64 24, .bool true, .int .u8 3, .int .i64 2, .int .i64 3, .bool false, .int .u8 1, .int .i64 2, .int .i64 3, .bool false, .int .u8 2, .int .i64 2, .int .i64 24, .bool true, .int .u8 3, .int .i64 2, .int .i64 2, .bool true, .int .u8 3] 82)).cell? ⟨w.heap.size, i, none⟩ = (w.alloc (.cells #[.int .i64 0, .int .i64 0, .bool false, .int .u8 0] 71)).cell? ⟨w.heap.size, i, none⟩ := fun i => World.cell?_alloc_lt _ _ ⟨w.heap.size, i, none⟩ (by rw [z1]; exact Nat.lt_succ_self _)
    exact ⟨(h 0).trans ((World.cell?_alloc_at _ _ _ _ rfl).trans rfl), (h 1).trans ((World.cell?_alloc_at _ _ _ _ rfl).trans rfl), (h 2).trans ((World.cell?_alloc_at _ _ _ _ rfl).trans rfl), (h 3).trans ((World.cell?_alloc_at _ _ _ _ rfl).trans rfl)⟩
  · have hb : (World.heap ((w.alloc (.cells #[.int .i64 0, .int .i64 0, .bool false, .int .u8 0] 71)).alloc (.cells #[.int .i64 0, .int .i64 0, .bool false, .int .u8 0, .int .i64 0, .int .i64 0, .bool true, .int .u8 3, .int .i64 2, .int .i64 24, .bool true, .int .u8 3, .int .i64 2, .int .i64 24, .bool true, .int .u8 3, .int .i64 2, .int .i64 3, .bool false, .int .u8 1, .int .i64 2, .int .i64 3, .bool false, .int .u8 2, .int .i64 2, .int .i64 24, .bool true, .int .u8 3, .int .i64 2, .int .i64 2, .bool true, .int .u8 3] 82)))[w.heap.size]? = (w.alloc (.cells #[.int .i64 0, .int .i64 0, .bool false, .int .u8 0] 71)).heap[w.heap.size]? := Below.heap_alloc _ _ _ (by rw [z1]; exact Nat.lt_succ_self _)
    have h : ∀ i, ((w.alloc (.cells #[.int .i64 0, .int .i64 0, .bool false, .int .u8 0] 71)).alloc (.cells #[.int .i64 0, .int .i64 0, .bool false, .int .u8 0, .int .i64 0, .int .i64 0, .bool true, .int .u8 3, .int .i64 2, .int .i64 24, .bool true, .int .u8 3, .int .i64 2, .int .i64 24, .bool true, .int .u8 3, .int .i64 2, .int .i64 3, .bool false, .int .u8 1, .int .i64 2, .int .i64 3, .bool false, .int .u8 2, .int .i64 2, .int .i64 24, .bool true, .int .u8 3, .int .i64 2, .int .i64 2, .bool true, .int .u8 3] 82)).frozen? ⟨w.heap.size, i, none⟩ = (w.alloc (.cells #[.int .i64 0, .int .i64 0, .bool false, .int .u8 0] 71)).frozen? ⟨w.heap.size, i, none⟩ := fun i => World.frozen?_of_block (w := w.alloc (.cells #[.int .i64 0, .int .i64 0, .bool false, .int .u8 0] 71)) (a := ⟨w.heap.size, i, none⟩) hb
    exact ⟨(h 0).trans (World.frozen?_alloc_at _ _ _ _ rfl), (h 1).trans (World.frozen?_alloc_at _ _ _ _ rfl), (h 2).trans (World.frozen?_alloc_at _ _ _ _ rfl), (h 3).trans (World.frozen?_alloc_at _ _ _ _ rfl)⟩
set_option maxRecDepth 100000 in
set_option maxHeartbeats 16000000 in
theorem shof_lt (m : Nat) (h8 : m < 8) (w : World) : Calls Tryd.prog 42 #[.int .u8 (m : Int)] w fun e w' => e = .returned (askV (askOf m)) ∧ Below w.heap.size w w' := by
  have hm : True := trivial
  obtain ⟨V, hV, hz, hb, ⟨d0, d1, d2, d3⟩, ⟨r0, r1, r2, r3⟩, f0, f1, f2, f3⟩ := ask_world w m h8
  have HV := Lib.hid hV
  have HZ := Lib.hid hz
  have HB := Lib.hid hb
  unfold askV
  generalize (askOf m).least = al at *
  generalize (askOf m).most = am at *
  generalize (askOf m).alone = aa at *
  generalize (askOf m).wh = aw at *
  have hl1 : w.heap.size < V.heap.size := by omega
  have hl2 : w.heap.size + 1 < V.heap.size := by omega
  have i0 : (0 : Int) ≤ (m : Int) := by omega
  have i1 : (m : Int) < 8 := by omega
  clear hV hz hb hm h8
  go_enter Tryd.func42, Tryd.ntmps42
  go_upto_region 4 with (refine wpList_store_row (by rfl) 82 (.tmp 3) (.tmp 11) (by rfl) (w.alloc (.cells #[.int .i64 0, .int .i64 0, .bool false, .int .u8 0] 71)) _ _ (by rfl) (w.heap.size + 1) (by simp) (by rfl) (by rfl) (by kernel_rfl) (by rfl) (by simp [Value.oneCell']) ?_)
  rw [← HV.out]
  go_wp2
  exact bodyPost_ret (v := .agg #[.int .i64 al, .int .i64 am, .bool aa, .int .u8 aw]) (by simp [results, Tryd.results42, go_sem, r0, r1, r2, r3]) rfl ⟨rfl, (((HB.out.setCell (p := ⟨w.heap.size, 0, none⟩) (Nat.le_refl _) _).setCell (p := ⟨w.heap.size, 1, none⟩) (Nat.le_refl _) _).setCell (p := ⟨w.heap.size, 2, none⟩) (Nat.le_refl _) _).setCell (p := ⟨w.heap.size, 3, none⟩) (Nat.le_refl _) _⟩
set_option maxRecDepth 100000 in
set_option maxHeartbeats 16000000 in
theorem shof_ge (m : Nat) (hm : m ≤ 255) (h8 : ¬ m < 8) (w : World) : Calls Tryd.prog 42 #[.int .u8 (m : Int)] w fun e w' => e = .returned (askV (askOf m)) ∧ Below w.heap.size w w' := by
  have e0 : askOf (m : Int) = ⟨0, 0, false, 0⟩ := by
    unfold askOf
    repeat rw [if_neg (by omega)]
  obtain ⟨V, hV, hz, hb, _, ⟨r0, r1, r2, r3⟩, f0, f1, f2, f3⟩ := ask_world w 0 (by omega)
  have HV := Lib.hid hV
  have HB := Lib.hid hb
  rw [e0]
  unfold askV
  have i1 : ¬ (m : Int) < 8 := by omega
  have i0 : (0 : Int) ≤ (m : Int) := by omega
  have i2 : (m : Int) ≤ 255 := by omega
  have i3 : IntKind.i64.wrap (m : Int) = (m : Int) := IntWalk.i64_in _ (by omega)
  have hl1 : w.heap.size < V.heap.size := by omega
  clear hV hz hb hm h8 e0
  go_enter Tryd.func42, Tryd.ntmps42
  go_upto_region 3 with (refine wpList_store_row (by rfl) 82 (.tmp 3) (.tmp 11) (by rfl) (w.alloc (.cells #[.int .i64 0, .int .i64 0, .bool false, .int .u8 0] 71)) _ _ (by rfl) (w.heap.size + 1) (by simp) (by rfl) (by rfl) (by kernel_rfl) (by rfl) (by simp [Value.oneCell']) ?_)
  rw [← HV.out]
  go_wp2
  exact bodyPost_ret (v := .agg #[.int .i64 0, .int .i64 0, .bool false, .int .u8 0]) (by simp [results, Tryd.results42, go_sem, r0, r1, r2, r3]) rfl ⟨rfl, (((HB.out.setCell (p := ⟨w.heap.size, 0, none⟩) (Nat.le_refl _) _).setCell (p := ⟨w.heap.size, 1, none⟩) (Nat.le_refl _) _).setCell (p := ⟨w.heap.size, 2, none⟩) (Nat.le_refl _) _).setCell (p := ⟨w.heap.size, 3, none⟩) (Nat.le_refl _) _⟩
theorem shof_any (m : Nat) (hm : m ≤ 255) (w : World) : Calls Tryd.prog 42 #[.int .u8 (m : Int)] w fun e w' => e = .returned (askV (askOf m)) ∧ Below w.heap.size w w' := by
  by_cases h8 : m < 8
  · exact shof_lt m h8 w
  · exact shof_ge m hm h8 w
end Go.Proofs.YtcpjignlhlcnpaaDoor
