/- RichCatch, RichClone -/
import Derived.Test.YtoglbogfoolkaaaGreatDoorRichTellsRowG16
import Derived.Test.YtoglbogfoolkaaaGreatDoorRichTellsRowG15
import Derived.Test.YtoglbogfoolkaaaGreatDoorRichTellsRowG36
import Derived.Defers
import Derived.Recover
import Derived.Deep.QuietTactic
import Derived.BigQuiet
namespace Go.Proofs.YtoglbogfoolkaaaGreatDoor
section
/- Walks: the closure that rich.Parse defers: it recovers what a part was refused with. -/






open Go.RowKit Go.Shelf
set_option linter.unusedVariables false

theorem stop_yes (v : Value) (w : World) : (Instr.typeAssert (.iface 144 v) 20 144 true).run Tryz.prog w = .ok (.tuple #[v, .bool true]) w := by kernel_rfl
theorem tm3 (a b c : Value) : #[a, b, c] ++ Array.replicate 19 undef = #[a, b, c, undef, undef, undef, undef, undef, undef, undef, undef, undef, undef, undef, undef, undef, undef, undef, undef, undef, undef, undef] := by
  apply Array.ext'
  rw [Array.toList_append, Array.toList_replicate]
  rfl
set_option maxRecDepth 100000 in
set_option maxHeartbeats 4000000 in
theorem rcatch_idle (p2 p3 p4 : Addr) (w : World) : CallsD Tryz.prog 109 #[.pointer (some p2), .pointer (some p3), .pointer (some p4)] .returning w fun e u' w' => e = .returned (.tuple #[]) ∧ u' = .returning ∧ w' = w := by
  refine callsD_of_wpS Tryz.func109 rfl fun c₀ cs hu => ?_
  simp only [Tryz.ntmps109, List.size_toArray, List.length_cons, List.length_nil, Nat.zero_add, Nat.reduceAdd, Nat.reduceSub, tm3]
  apply wpS_seq
  apply wpS_region
  simp [wpOpsS, go_sem, recoverD, hu, Exit.thenS]
  apply wpS_seq
  apply wpS_region
  simp [wpOpsS, go_sem, recoverD, hu, Exit.thenS]
  refine wpS_cond (t := false) (by simp [Act.eval]) ?_
  simp only [Bool.false_eq_true, if_false]
  refine wpS_of_wp (wp_skip ?_)
  cases c₀
  simp_all [bodyPostS, results, Tryz.results109]
set_option maxRecDepth 100000 in
set_option maxHeartbeats 4000000 in
theorem rcatch_panicking (m m3 m4 : Nat) (p : Nat) (x : Int) (older : List PanicEntry) (w : World) {a0 a1 a2 a3 a4 a5 a6 : Value} (hx : Box7 m a0 a1 a2 a3 a4 a5 a6 w) {v3 v4 : Value} (c3 : w.cell? ⟨m3, 0, none⟩ = some v3) (c4 : w.cell? ⟨m4, 0, none⟩ = some v4) (g3 : w.frozen? ⟨m3, 0, none⟩ = false) (g4 : w.frozen? ⟨m4, 0, none⟩ = false) (n1 : ¬ m3 = m) (n2 : ¬ m4 = m) (n3 : ¬ m4 = m3) : CallsD Tryz.prog 109 #[.pointer (some ⟨m, 0, none⟩), .pointer (some ⟨m3, 0, none⟩), .pointer (some ⟨m4, 0, none⟩)] (.panicking ({ v := .iface 144 (.agg #[.int .i64 (p : Int), .int .i64 x]), recovered := false } :: older)) w fun e u' w' =>
    e = .returned (.tuple #[]) ∧ u' = .panicking ({ v := .iface 144 (.agg #[.int .i64 (p : Int), .int .i64 x]), recovered := true } :: older) ∧ w' = ((((store7 m (.int .u8 0) (.string ⟨#[]⟩) (.int .u8 0) (.int .i64 0) (.string ⟨#[]⟩) (.string ⟨#[]⟩) (.slice none 0 0) w).setCell ⟨m3, 0, none⟩ (.int .i64 (p : Int))).setCell ⟨m4, 0, none⟩ (.int .i64 x)).alloc (.cells #[.int .i64 (p : Int), .int .i64 x] 144)).drew := by
  refine callsD_of_wpS Tryz.func109 rfl fun c₀ cs hu => ?_
  simp only [Tryz.ntmps109, List.size_toArray, List.length_cons, List.length_nil, Nat.zero_add, Nat.reduceAdd, Nat.reduceSub, tm3]
  apply wpS_seq
  apply wpS_region
  simp [wpOpsS, go_sem, recoverD, hu, Exit.thenS]
  apply wpS_seq
  apply wpS_region
  simp [wpOpsS, go_sem, recoverD, Exit.thenS]
  refine wpS_cond (t := true) (by simp [Act.eval]) ?_
  simp only [if_true]
  have HU := Lib.hid hu
  clear hu
  refine wpS_of_wp ?_
  obtain ⟨⟨h0, h1, h2, h3, h4, h5, h6⟩, ⟨f0, f1, f2, f3, f4, f5, f6⟩, hl⟩ := id hx
  clear hx
  generalize hcs : ({ fn := c₀.fn, tmps := c₀.tmps, todo := c₀.todo, defers := c₀.defers, mode := _, kind := c₀.kind, roundOf := c₀.roundOf } : Frame) :: cs = CS
  have HCS := Lib.hid hcs
  clear hcs
  have hta := stop_yes
  have l3 : m3 < w.heap.size := World.block_lt_of_cell? w _ c3
  have l4 : m4 < w.heap.size := World.block_lt_of_cell? w _ c4
  have b0 : ¬ m = w.heap.size := by omega
  have b3 : ¬ m3 = w.heap.size := by omega
  have b4 : ¬ m4 = w.heap.size := by omega
  have b0' : ¬ w.heap.size = m := by omega
  have b3' : ¬ w.heap.size = m3 := by omega
  have b4' : ¬ w.heap.size = m4 := by omega
  go_wp2_with fail
  go_region
  have hh := HCS.out
  subst hh
  exact ⟨rfl, _, rfl, _, results_none rfl _ _ _, rfl, rfl, rfl⟩
end
section
/- Walks: slices.Clone of the words of a text. -/



open Go.RowKit Go.Shelf
set_option linter.unusedVariables false

section
variable {P : Program} {α : Type} {enc : α → List Value} (w : World)
theorem wpList_append_rd {ops : Array Oper} {rest : List Oper} {o : Oper} {a : Act} {Q : Exit → Act → World → Prop} (hgd : o.guard = none) (s x : Operand) (t : TypeId)
    (ho : o.op = .call { callee := .builtin .append, args := #[s, x], argTypes := #[t, t] })
    (base : Nat) (e : TypeId) (i : TypeInfo) (z : Value) (size bytes : Nat) (ht : P.underlying t = some (.slice e)) (hi : P.info? e = some i) (hz : i.zero = some z) (hsize : i.size = size) (hby : i.bytes = bytes) (hzc : z.cells.size = size) (hs0 : 0 < size)
    (he : ∀ x, (enc x).length = size) (h1 : ∀ x, ∀ u ∈ enc x, u.oneCell' = true)
    (v : Value) (n : Nat) (xs : List Value) (hs : a.eval s = v) (hown : w.ownsRow base e size v n xs) (B : Nat) (A : Option Addr) (c : Nat) (D : List α) (m : Nat) (hm : m = D.length) (hx : a.eval x = .slice A m c) (hT : Rd enc size B A c D w) (hn : n + D.length ≤ 1000000) (hbytes : bytes ≤ 1000) (hbase : base ≤ w.heap.size)
    (h : ∀ v' w', w'.ownsRow base e size v' (n + D.length) (xs ++ D.flatMap enc) → w.grownBy w' v.ownBlock → (v'.ownBlock = v.ownBlock ∨ v'.ownBlock = some w.heap.size) → wpList P ops Q rest (a.put o.dst v') w') :
    wpList P ops Q (o :: rest) a w := by
  subst hm
  refine wpList_plain hgd fun _ hK => ?_
  obtain ⟨v', w', hrun, r1, r2, r3⟩ := run_append_rd (P := P) w base t o.type e i z size bytes ht hi hz hsize hby hzc hs0 he h1 v n xs hown B A c D hT hn hbytes hbase
  unfold Oper.wp
  simp [execOp, ho, resolve, invoke, builtin, hs, hx, hrun, Result.andThen]
  exact hK _ _ (h v' w' r1 r2 r3)
end
theorem encTok_len (x : Tok) : (encTok x).length = 2 := rfl
theorem encTok_one (x : Tok) : ∀ u ∈ encTok x, u.oneCell' = true := by
  intro u hu
  simp only [encTok, List.mem_cons, List.not_mem_nil, or_false] at hu
  rcases hu with rfl | rfl <;> rfl
set_option maxRecDepth 100000 in
set_option maxHeartbeats 4000000 in
theorem rclone_any (A : Option Addr) (cap : Nat) (l : List Tok) (w : World) (h : Rd encTok 2 w.heap.size A cap l w) (hl : l.length ≤ 5000) : Calls Tryz.prog 110 #[.slice A l.length cap] w fun e w' => ∃ A' c', e = .returned (.slice A' l.length c') ∧ Rd encTok 2 w'.heap.size A' c' l w' ∧ (∀ b off, A' = some ⟨b, off, none⟩ → w.heap.size ≤ b) ∧ Below w.heap.size w w' := by
  have q : ∀ (w : World) (a : Option Addr) (n c n' c' : Nat), (binOp .eql 140 (.slice a n c) (.slice none n' c')).run Tryz.prog w = .ok (.bool a.isNone) w := fun w a n c n' c' => Lib.run_eql_slice_nil w _ _ a n c n' c' (by rfl)
  have H := Lib.hid h
  have HL := Lib.hid hl
  cases A with
  | none =>
    have hlen : l.length = 0 := by
      cases l with
      | nil => rfl
      | cons x r => obtain ⟨b, o, e, _⟩ := h.2.2 0 (by simp); cases e
    obtain rfl := List.eq_nil_of_length_eq_zero hlen
    clear h hl hlen
    go_enter Tryz.func110, Tryz.ntmps110
    go_wp2_with fail
    go_ret
    exact ⟨none, 0, rfl, Rd.nil_ (Nat.zero_le _), (fun b off h => by cases h), Below.refl _ _⟩
  | some ad =>
    obtain ⟨n, hn⟩ : ∃ n, n = l.length := ⟨_, rfl⟩
    have HN := Lib.hid hn
    rw [← hn]
    clear h hl hn
    go_enter Tryz.func110, Tryz.ntmps110
    go_wp2_with (at_builtin; refine wpList_append_rd _ rfl _ _ 140 rfl w.heap.size 149 _ _ 2 _ (by rfl) (by rfl) (by rfl) (by rfl) (by rfl) (by rfl) (by decide) encTok_len encTok_one _ 0 [] rfl (World.ownsRow_made w #[] 0 (Nat.le_refl _) (Nat.zero_le _) rfl) w.heap.size (some ad) cap l n HN.out rfl (H.out.alloc (Nat.le_refl _) _) (by have := HL.out; omega) (by decide) (by simp) ?_; intro v1 w1 ho1 hg1 hw1)
    go_ret
    have hO : Own encTok 2 w.heap.size 149 v1 l w1 := by simpa [Own] using ho1
    obtain ⟨A', c', hv, hr⟩ := hO.rd encTok_len
    exact ⟨A', c', by rw [HN.out]; exact congrArg Ending.returned hv, hr, (fun b off e => (World.ownsRow.lt hO b (by rw [hv, e]; rfl)).1), ((Below.refl _ w).alloc (Nat.le_refl _) _).grown hg1 (by simp) (by intro k hk; cases hk; exact Nat.le_refl _)⟩
end
end Go.Proofs.YtoglbogfoolkaaaGreatDoor
