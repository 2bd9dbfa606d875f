/- Walks: vercmp.Sort at texts that lie at an offset; at none. -/
import Derived.Test.YtinidiiachedbaaDoorSortW7
import Derived.Test.YtinidiiachedbaaDoorShelf
namespace Go.Proofs.YtinidiiachedbaaDoor
open Go.RowKit Go.Shelf

set_option maxRecDepth 100000 in
set_option maxHeartbeats 2000000 in
theorem clone_off (b o n cap : Nat) (D : List ByteArray) (w : World) (hn : n = D.length) (hn2 : n ≤ 1000000) (hc : ∀ (k : Nat) (h : k < D.length), w.cell? ⟨b, o + k, none⟩ = some (.string D[k])) :
    Calls Tryd.prog 37 #[.slice (some ⟨b, o, none⟩) n cap] w fun e w' => ∃ g c, e = .returned (.slice (some ⟨g, 0, none⟩) n c) ∧ w.heap.size ≤ g ∧ RowS w' g D ∧ Below w.heap.size w w' := by
  have A := Lib.hid hc
  have HN := Lib.hid hn
  clear hc hn
  have q : ∀ (w : World) (a : Option Addr) (n c n' c' : Nat), (binOp .eql 22 (.slice a n c) (.slice none n' c')).run Tryd.prog w = .ok (.bool a.isNone) w := fun w a n c n' c' => Lib.run_eql_slice_nil w _ _ a n c n' c' (by rfl)
  go_enter Tryd.func37, Tryd.ntmps37
  go_wp2_with (at_builtin; refine wpList_append_own _ rfl _ _ 22 rfl w.heap.size 9 _ (.string { data := #[] }) 1 16 (by rfl) (by rfl) (by rfl) (by rfl) (by rfl) rfl (by decide) _ _ _ rfl (World.ownsRow_made w #[] 0 (Nat.le_refl _) (Nat.zero_le _) rfl) ⟨b, o, none⟩ n cap (D.map (Value.string)) rfl ?qc1 ?qc2 ?qc3 ?qc4 ?qc5 ?qc6 ?_)
  case qc1 => simp; exact HN.out.symm
  case qc2 =>
    intro j u hj
    have hjn : j < D.length := by have := (List.getElem?_eq_some_iff.1 hj).1; simpa using this
    rw [Addr.add_lit]
    refine Lib.cell?_alloc_some _ ?_
    have e : (D.map Value.string)[j]? = some (Value.string D[j]) := by simp [List.getElem?_eq_getElem hjn]
    rw [e] at hj
    rw [← hj, ← A.out j hjn]
  case qc3 => intro u hu; obtain ⟨x, _, rfl⟩ := List.mem_map.1 hu; rfl
  case qc4 => unfold maxLen; omega
  case qc5 => omega
  case qc6 => simp
  intro v' w1 hown hgrow hnil
  have hb : Below w.heap.size w w1 := ((Below.refl _ w).alloc (Nat.le_refl _) _).grown hgrow (by simp) (by intro k hk; simp [Value.ownBlock] at hk; omega)
  obtain ⟨g, c, hv, hg, hR⟩ : ∃ g c, v' = .slice (some ⟨g, 0, none⟩) n c ∧ w.heap.size ≤ g ∧ RowS w1 g D := by
    have how := hown
    obtain ⟨h1, h2 | ⟨g, c, cur, hv, hg, hc, _⟩⟩ := hown
    · exact absurd h2.1 hnil
    · subst hv
      refine ⟨g, c, rfl, hg, ?_, ?_⟩
      · exact (Array.getElem?_eq_some_iff.1 hc).1
      · intro k hk
        refine ⟨?_, ?_⟩
        · have h := World.ownsRow.cellAt (w := w1) (base := w.heap.size) (e := 9) (size := 1) (xs := D.map Value.string) how k (by have := HN.out; omega)
          rw [h]; simp [List.getElem?_eq_getElem hk]
        · exact World.ownsRow.frozenAt (w := w1) (base := w.heap.size) (e := 9) (size := 1) (xs := D.map Value.string) how k
  subst hv
  have HB := Lib.hid hb
  have HR := Lib.hid hR
  clear hgrow hnil hown hb hR A
  go_wp2
  go_ret
  exact ⟨g, c, rfl, hg, HR.out, HB.out⟩

set_option maxRecDepth 100000 in
set_option maxHeartbeats 2000000 in
theorem sort_off (b o n cap : Nat) (D : List ByteArray) (w : World) (hn : n = D.length) (hn2 : n ≤ 1000000) (hsh : Sh D) (hc : ∀ (k : Nat) (h : k < D.length), w.cell? ⟨b, o + k, none⟩ = some (.string D[k])) :
    Calls Tryd.prog 12 #[.slice (some ⟨b, o, none⟩) n cap] w fun e w' => ∃ g c, e = .returned (.slice (some ⟨g, 0, none⟩) n c) ∧ w.heap.size ≤ g ∧ RowS w' g (rs ltS D) ∧ Below w.heap.size w w' := by
  have C := Lib.hid (clone_off b o n cap D w hn hn2 hc)
  have S := Lib.hid (fun g c W => sortFunc_any g c n D W hn hn2 hsh)
  clear hn hsh hc
  go_enter Tryd.func12, Tryd.ntmps12
  go_wp2_with fail
  go_at_call 37
  refine C.out.mono ?_
  rintro e w1 ⟨g, c, rfl, hg, h1, h2⟩
  have R1 := Lib.hid h1
  have B1 := Lib.hid h2
  clear h1 h2 C
  go_wp2_with fail
  go_at_call 38
  refine (S.out g c _ R1.out).mono ?_
  rintro e w2 ⟨rfl, h1, h2⟩
  have R2 := Lib.hid h1
  have T2 := Lib.hid h2
  clear h1 h2 S
  go_wp2
  go_ret
  exact ⟨g, c, rfl, hg, R2.out, B1.out.grown T2.out (B1.out.size) (by intro k hk; cases hk; exact hg)⟩
set_option maxRecDepth 100000 in
set_option maxHeartbeats 2000000 in
theorem insort_nil (A : Option Addr) (w : World) (c : Nat) : Calls Tryd.prog 107 #[.slice A 0 c, .int .i64 0, .int .i64 0, cmpF] w fun e w' => e = .returned (.tuple #[]) ∧ w = w' := by
  go_enter Tryd.func107, Tryd.ntmps107
  go_wp2
  refine wp_loop_rounds 1 ?_
  rw [rounds_succ]
  go_wp2
  go_end0
  exact ⟨rfl, rfl⟩
set_option maxRecDepth 100000 in
set_option maxHeartbeats 2000000 in
theorem stable_nil (A : Option Addr) (w : World) (c : Nat) : Calls Tryd.prog 70 #[.slice A 0 c, .int .i64 0, cmpF] w fun e w' => e = .returned (.tuple #[]) ∧ Below w.heap.size w w' := by
  go_enter Tryd.func70, Tryd.ntmps70
  go_wp2_with fail
  refine wp_loop_rounds 1 ?_
  rw [rounds_succ]
  go_wp2_with fail
  go_at_call 107
  refine (insort_nil _ _ _).mono ?_
  rintro e w' ⟨rfl, rfl⟩
  go_wp2_with fail
  refine wp_loop_rounds 1 ?_
  rw [rounds_succ]
  go_wp2_with fail
  go_end0
  exact ⟨rfl, Below.refl _ _⟩
/-- Clone of nothing -/
def NoneAt (w : World) (e : Ending) (w' : World) : Prop := ∃ B d, e = .returned (.slice B 0 d) ∧ Below w.heap.size w w'
set_option maxRecDepth 100000 in
set_option maxHeartbeats 2000000 in
theorem clone_nil (A : Option Addr) (c : Nat) (w : World) : Calls Tryd.prog 37 #[.slice A 0 c] w (NoneAt w) := by
  have q : ∀ (w : World) (a : Option Addr) (n c n' c' : Nat), (binOp .eql 22 (.slice a n c) (.slice none n' c')).run Tryd.prog w = .ok (.bool a.isNone) w := fun w a n c n' c' => Lib.run_eql_slice_nil w _ _ a n c n' c' (by rfl)
  cases A with
  | none =>
    go_enter Tryd.func37, Tryd.ntmps37
    go_wp2
    go_ret
    exact ⟨none, 0, rfl, Below.refl _ _⟩
  | some a =>
    refine (Tryd.slices_Clone_string_zero a c w).mono ?_
    rintro e w' ⟨v', rfl, h, _, hb⟩
    obtain ⟨B, d, rfl⟩ := own_shape h
    exact ⟨B, d, rfl, hb⟩
set_option maxRecDepth 100000 in
set_option maxHeartbeats 2000000 in
theorem sort_empty (A : Option Addr) (c : Nat) (w : World) : Calls Tryd.prog 12 #[.slice A 0 c] w (NoneAt w) := by
  have C := Lib.hid (fun W => clone_nil A c W)
  have SF : ∀ (B : Option Addr) (d : Nat) (W : World), Calls Tryd.prog 38 #[.slice B 0 d, cmpF] W fun e w' => e = .returned (.tuple #[]) ∧ Below W.heap.size W w' := by
    intro B d W
    go_enter Tryd.func38, Tryd.ntmps38
    go_wp2_with fail
    go_at_call 70
    refine (stable_nil _ _ _).mono ?_
    rintro e w1 ⟨rfl, h⟩
    go_wp2
    go_end0
    exact ⟨rfl, h⟩
  have S := Lib.hid SF
  clear SF
  go_enter Tryd.func12, Tryd.ntmps12
  go_wp2_with fail
  go_at_call 37
  refine (C.out _).mono ?_
  rintro e w1 ⟨B, d, rfl, h1⟩
  go_wp2_with fail
  go_at_call 38
  refine (S.out _ _ _).mono ?_
  rintro e w2 ⟨rfl, h2⟩
  go_wp2
  go_ret
  exact ⟨B, d, rfl, h1.trans (h2.mono h1.size)⟩
end Go.Proofs.YtinidiiachedbaaDoor
