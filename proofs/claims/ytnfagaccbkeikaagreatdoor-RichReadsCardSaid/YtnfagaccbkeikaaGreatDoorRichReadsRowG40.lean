/- RtAny, RichCatch -/
import Derived.Test.YtnfagaccbkeikaaGreatDoorRichReadsRowG39
import Derived.Test.YtnfagaccbkeikaaGreatDoorRichReadsRowG17
import Derived.Defers
import Derived.Recover
import Derived.Deep.QuietTactic
import Derived.BigQuiet
namespace Go.Proofs.YtnfagaccbkeikaaGreatDoor
section
/- Walks: the reference's reader at whatever depth. -/


open Go.RowKit Go.Shelf
set_option linter.unusedVariables false

theorem rtread_any {w0 : World} {R e : Nat} {ws : List Tok} {A : Option Addr} {c : Nat} (d : Nat) : ∀ o : Nat, d + o = 8 → RSays w0 R e ws A c d o := by
  induction d with
  | zero =>
    intro o ho q n W hn h
    by_cases q1 : atT (ws.drop q) = [] ∨ atT (ws.drop q) = [41]
    · exact rtread_a h rfl q1
    · by_cases q2 : atT (ws.drop q) = [40]
      · obtain rfl : o = 8 := by omega
        exact rtread_b (d := 0) (o := 8) h rfl q2
      · by_cases q4 : n = 24
        · subst q4
          exact rtread_c (n := 24) h rfl ho q1 (fun hh => q2 hh.1)
        · exact rtread_d h rfl hn q1 q2 q4
  | succ d ih =>
    intro o ho q n W hn h
    by_cases q1 : atT (ws.drop q) = [] ∨ atT (ws.drop q) = [41]
    · exact rtread_a h rfl q1
    · by_cases q2 : atT (ws.drop q) = [40]
      · by_cases q4 : n = 24
        · subst q4
          exact rtread_c (n := 24) h rfl ho q1 (fun hh => by cases hh.2)
        · exact rtread_e h rfl hn (by omega) (ih (o + 1) (by omega)) q2 q4
      · by_cases q4 : n = 24
        · subst q4
          exact rtread_c (n := 24) h rfl ho q1 (fun hh => q2 hh.1)
        · exact rtread_d h rfl hn q1 q2 q4
end
section
/- Walks: the closure that rich.Parse defers: it recovers what a part was refused with. -/






open Go.RowKit Go.Shelf
set_option linter.unusedVariables false

theorem stop_yes (v : Value) (w : World) : (Instr.typeAssert (.iface 90 v) 20 90 true).run Tryz.prog w = .ok (.tuple #[v, .bool true]) w := by kernel_rfl
theorem tm3 (a b c : Value) : #[a, b, c] ++ Array.replicate 19 undef = #[a, b, c, undef, undef, undef, undef, undef, undef, undef, undef, undef, undef, undef, undef, undef, undef, undef, undef, undef, undef, undef] := by
  apply Array.ext'
  rw [Array.toList_append, Array.toList_replicate]
  rfl
set_option maxRecDepth 100000 in
set_option maxHeartbeats 4000000 in
theorem rcatch_idle (p2 p3 p4 : Addr) (w : World) : CallsD Tryz.prog 46 #[.pointer (some p2), .pointer (some p3), .pointer (some p4)] .returning w fun e u' w' => e = .returned (.tuple #[]) ∧ u' = .returning ∧ w' = w := by
  refine callsD_of_wpS Tryz.func46 rfl fun c₀ cs hu => ?_
  simp only [Tryz.ntmps46, List.size_toArray, List.length_cons, List.length_nil, Nat.zero_add, Nat.reduceAdd, Nat.reduceSub, tm3]
  apply wpS_seq
  apply wpS_region
  simp [wpOpsS, go_sem, recoverD, hu, Exit.thenS]
  apply wpS_seq
  apply wpS_region
  simp [wpOpsS, go_sem, recoverD, hu, Exit.thenS]
  refine wpS_cond (t := false) (by simp [Act.eval]) ?_
  simp only [Bool.false_eq_true, if_false]
  refine wpS_of_wp (wp_skip ?_)
  cases c₀
  simp_all [bodyPostS, results, Tryz.results46]
set_option maxRecDepth 100000 in
set_option maxHeartbeats 4000000 in
theorem rcatch_panicking (m m3 m4 : Nat) (p : Nat) (x : Int) (older : List PanicEntry) (w : World) {a0 a1 a2 a3 a4 a5 a6 : Value} (hx : Box7 m a0 a1 a2 a3 a4 a5 a6 w) {v3 v4 : Value} (c3 : w.cell? ⟨m3, 0, none⟩ = some v3) (c4 : w.cell? ⟨m4, 0, none⟩ = some v4) (g3 : w.frozen? ⟨m3, 0, none⟩ = false) (g4 : w.frozen? ⟨m4, 0, none⟩ = false) (n1 : ¬ m3 = m) (n2 : ¬ m4 = m) (n3 : ¬ m4 = m3) : CallsD Tryz.prog 46 #[.pointer (some ⟨m, 0, none⟩), .pointer (some ⟨m3, 0, none⟩), .pointer (some ⟨m4, 0, none⟩)] (.panicking ({ v := .iface 90 (.agg #[.int .i64 (p : Int), .int .i64 x]), recovered := false } :: older)) w fun e u' w' =>
    e = .returned (.tuple #[]) ∧ u' = .panicking ({ v := .iface 90 (.agg #[.int .i64 (p : Int), .int .i64 x]), recovered := true } :: older) ∧ w' = ((((store7 m (.int .u8 0) (.string ⟨#[]⟩) (.int .u8 0) (.int .i64 0) (.string ⟨#[]⟩) (.string ⟨#[]⟩) (.slice none 0 0) w).setCell ⟨m3, 0, none⟩ (.int .i64 (p : Int))).setCell ⟨m4, 0, none⟩ (.int .i64 x)).alloc (.cells #[.int .i64 (p : Int), .int .i64 x] 90)).drew := by
  refine callsD_of_wpS Tryz.func46 rfl fun c₀ cs hu => ?_
  simp only [Tryz.ntmps46, List.size_toArray, List.length_cons, List.length_nil, Nat.zero_add, Nat.reduceAdd, Nat.reduceSub, tm3]
  apply wpS_seq
  apply wpS_region
  simp [wpOpsS, go_sem, recoverD, hu, Exit.thenS]
  apply wpS_seq
  apply wpS_region
  simp [wpOpsS, go_sem, recoverD, Exit.thenS]
  refine wpS_cond (t := true) (by simp [Act.eval]) ?_
  simp only [if_true]
  have HU := Lib.hid hu
  clear hu
  refine wpS_of_wp ?_
  obtain ⟨⟨h0, h1, h2, h3, h4, h5, h6⟩, ⟨f0, f1, f2, f3, f4, f5, f6⟩, hl⟩ := id hx
  clear hx
  generalize hcs : ({ fn := c₀.fn, tmps := c₀.tmps, todo := c₀.todo, defers := c₀.defers, mode := _, kind := c₀.kind, roundOf := c₀.roundOf } : Frame) :: cs = CS
  have HCS := Lib.hid hcs
  clear hcs
  have hta := stop_yes
  have l3 : m3 < w.heap.size := World.block_lt_of_cell? w _ c3
  have l4 : m4 < w.heap.size := World.block_lt_of_cell? w _ c4
  have b0 : ¬ m = w.heap.size := by omega
  have b3 : ¬ m3 = w.heap.size := by omega
  have b4 : ¬ m4 = w.heap.size := by omega
  have b0' : ¬ w.heap.size = m := by omega
  have b3' : ¬ w.heap.size = m3 := by omega
  have b4' : ¬ w.heap.size = m4 := by omega
  go_wp2_with fail
  go_region
  have hh := HCS.out
  subst hh
  exact ⟨rfl, _, rfl, _, results_none rfl _ _ _, rfl, rfl, rfl⟩
end
end Go.Proofs.YtnfagaccbkeikaaGreatDoor
