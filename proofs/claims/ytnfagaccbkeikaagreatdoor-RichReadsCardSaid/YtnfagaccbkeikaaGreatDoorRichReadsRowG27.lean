/- RichBetween, AppendRd -/
import Derived.Test.YtnfagaccbkeikaaGreatDoorRichReadsRowG26
import Derived.Test.YtnfagaccbkeikaaGreatDoorRichReadsRowG03
import Derived.Maps.AppendAt
namespace Go.Proofs.YtnfagaccbkeikaaGreatDoor
section
/- Walks: the word ahead of a part (rich.between). -/


open Go.RowKit Go.Shelf
set_option linter.unusedVariables false

theorem kind_word {k : Nat} (h2 : 2 ≤ k) (h7 : k < 8) : (kindL[k]'h7).1 = kwd (k : Int) ∧ (kindL[k]'h7).2 = mostK (k : Int) := by
  obtain rfl | rfl | rfl | rfl | rfl | rfl : k = 2 ∨ k = 3 ∨ k = 4 ∨ k = 5 ∨ k = 6 ∨ k = 7 := by omega
  all_goals exact ⟨rfl, rfl⟩
theorem KindsIn.at_ {w : World} (h : KindsIn w) {k : Nat} (h2 : 2 ≤ k) (h7 : k < 8) : w.cell? ⟨0, k * 2, none⟩ = some (.string (bs (kwd (k : Int)))) ∧ w.cell? ⟨0, k * 2 + 1, none⟩ = some (.int .i64 (mostK (k : Int) : Int)) := by
  have := h.2 k h7
  rw [(kind_word h2 h7).1, (kind_word h2 h7).2] at this
  exact this
set_option maxRecDepth 100000 in
set_option maxHeartbeats 4000000 in
theorem rbetween_any (k i : Nat) (h2 : 2 ≤ k) (h7 : k < 8) (w : World) (h : KindsIn w) : Calls Tryz.prog 134 #[.int .u8 (k : Int), .int .i64 (i : Int)] w fun e w' => e = .returned (.string (bs (betweenK (k : Int) i))) ∧ Below w.heap.size w w' := by
  obtain ⟨c0, c1⟩ := h.at_ h2 h7
  obtain ⟨mo, hmo⟩ : ∃ mo, mo = mostK (k : Int) := ⟨_, rfl⟩
  obtain ⟨kw, hkw⟩ : ∃ kw, kw = bs (kwd (k : Int)) := ⟨_, rfl⟩
  rw [← hmo] at c1
  rw [← hkw] at c0
  have k0 : (0 : Int) ≤ (k : Int) := by omega
  have k1 : (k : Int) < 8 := by omega
  have HK := Lib.hid hkw
  by_cases q : i = 2
  · subst q
    by_cases q2 : mo = 3
    · have hr := Lib.hid (show bs (betweenK (k : Int) 2) = ⟨#[101, 108, 115, 101]⟩ by unfold betweenK; rw [if_pos ⟨rfl, by rw [← hmo]; exact q2⟩]; rfl)
      subst q2
      clear h hmo hkw h2 h7
      go_enter Tryz.func134, Tryz.ntmps134
      go_wp2_with fail
      go_ret
      exact ⟨by rw [hr.out]; rfl, Below.refl _ _⟩
    · have q3 : ((mo : Int) == 3) = false := by simp only [beq_eq_false_iff_ne]; omega
      have hr := Lib.hid (show bs (betweenK (k : Int) 2) = kw by unfold betweenK; rw [if_neg (by rw [← hmo]; exact fun hh => q2 hh.2), hkw])
      clear h hmo hkw h2 h7 q2
      go_enter Tryz.func134, Tryz.ntmps134
      go_wp2_with fail
      go_ret
      exact ⟨by rw [hr.out]; rfl, Below.refl _ _⟩
  · have q3 : ((i : Int) == 2) = false := by simp only [beq_eq_false_iff_ne]; omega
    have hr := Lib.hid (show bs (betweenK (k : Int) i) = kw by unfold betweenK; rw [if_neg (fun hh => q hh.1), hkw])
    clear h hmo hkw h2 h7 q
    go_enter Tryz.func134, Tryz.ntmps134
    go_wp2_with fail
    go_ret
    exact ⟨by rw [hr.out]; rfl, Below.refl _ _⟩
end
section
/- append of a slice that came in, of whatever elements, nil too, onto a row of the call's own. -/



open Go.RowKit

theorem len_flat {α β : Type} {enc : α → List β} {size : Nat} (he : ∀ x, (enc x).length = size) : ∀ D : List α, (D.flatMap enc).length = D.length * size
  | [] => by simp
  | x :: D => by rw [List.flatMap_cons, List.length_append, he, len_flat he D, List.length_cons, Nat.add_mul]; omega
section
variable {P : Program} {α : Type} {enc : α → List Value} (w : World)
theorem run_append_nil (base : Nat) (t ty e : TypeId) (i : TypeInfo) (size : Nat) (ht : P.underlying t = some (.slice e)) (hi : P.info? e = some i)
    (v : Value) (n : Nat) (xs : List Value) (hown : w.ownsRow base e size v n xs) (c : Nat) : (Builtin.append_ #[t, t] ty #[v, .slice none 0 c]).run P w = .ok v w := by
  rcases hown.2 with ⟨rfl, rfl⟩ | ⟨g, cap, cur, rfl, _, _, hnc, _⟩
  · simp [Builtin.append_, run_underlying ht, sizeOf, typeInfo, hi, Builtin.lenOf, Builtin.firstCells]
  · simp [Builtin.append_, run_underlying ht, sizeOf, typeInfo, hi, Builtin.lenOf, Builtin.firstCells, hnc, storeCells]
theorem run_append_rd (base : Nat) (t ty e : TypeId) (i : TypeInfo) (z : Value) (size bytes : Nat) (ht : P.underlying t = some (.slice e)) (hi : P.info? e = some i) (hz : i.zero = some z) (hsize : i.size = size) (hby : i.bytes = bytes) (hzc : z.cells.size = size) (hs0 : 0 < size)
    (he : ∀ x, (enc x).length = size) (h1 : ∀ x, ∀ u ∈ enc x, u.oneCell' = true)
    (v : Value) (n : Nat) (xs : List Value) (hown : w.ownsRow base e size v n xs) (B : Nat) (A : Option Addr) (c : Nat) (D : List α) (hT : Rd enc size B A c D w) (hn : n + D.length ≤ 1000000) (hbytes : bytes ≤ 1000) (hbase : base ≤ w.heap.size) :
    ∃ v' w', (Builtin.append_ #[t, t] ty #[v, .slice A D.length c]).run P w = .ok v' w' ∧ w'.ownsRow base e size v' (n + D.length) (xs ++ D.flatMap enc) ∧ w.grownBy w' v.ownBlock ∧ (v'.ownBlock = v.ownBlock ∨ v'.ownBlock = some w.heap.size) := by
  cases A with
  | none =>
    have hD : D = [] := by
      cases D with
      | nil => rfl
      | cons x D => obtain ⟨b, o, e, _⟩ := hT.2.2 0 (by simp); cases e
    subst hD
    exact ⟨v, w, run_append_nil w base t ty e i size ht hi v n xs hown c, by simpa using hown, World.grownBy.refl w _, .inl rfl⟩
  | some ad =>
    obtain ⟨v', w', hrun, r1, r2, _, r4⟩ := run_append_own_at (P := P) w base t ty e i z size bytes ht hi hz hsize hby hzc hs0 v n xs hown ad D.length c (D.flatMap enc) (len_flat he D) (fun j u hu => by
      have hj : j < D.length * size := by
        have := (List.getElem?_eq_some_iff.1 hu).1
        rw [len_flat he] at this
        exact this
      have hk : j / size < D.length := Nat.div_lt_of_lt_mul (by rw [Nat.mul_comm]; exact hj)
      obtain ⟨b, o, e2, _, hc⟩ := hT.2.2 (j / size) hk
      cases e2
      rw [Addr.add_lit]
      have hd := Nat.div_add_mod j size
      have h3 := flatMap_at enc size he D (j / size) hk (j % size) (Nat.mod_lt _ hs0)
      rw [show j / size * size + j % size = j by rw [Nat.mul_comm]; exact hd, hu] at h3
      have h4 := hc (j % size) u h3.symm
      rw [show o + j / size * size + j % size = o + j by rw [Nat.add_assoc, Nat.mul_comm (j / size)]; rw [hd]] at h4
      exact h4) (fun u hu => by obtain ⟨x, _, hx⟩ := List.mem_flatMap.1 hu; exact h1 x u hx) (by unfold maxLen; omega) (by have := Nat.mul_le_mul hn hbytes; omega) hbase
    exact ⟨v', w', hrun, r1, r2, r4⟩
/-- the same, as a step of a region that draws -/
theorem step_append_rd {ops : Array Oper} {o : Oper} {a : Act} {K : Act → World → Prop} {Q : Exit → Act → World → Prop} {E : Prop} (hgd : o.guard = none) (s x : Operand) (t : TypeId)
    (ho : o.op = .call { callee := .builtin .append, args := #[s, x], argTypes := #[t, t] })
    (base : Nat) (e : TypeId) (i : TypeInfo) (z : Value) (size bytes : Nat) (ht : P.underlying t = some (.slice e)) (hi : P.info? e = some i) (hz : i.zero = some z) (hsize : i.size = size) (hby : i.bytes = bytes) (hzc : z.cells.size = size) (hs0 : 0 < size)
    (he : ∀ x, (enc x).length = size) (h1 : ∀ x, ∀ u ∈ enc x, u.oneCell' = true)
    (v : Value) (n : Nat) (xs : List Value) (hs : a.eval s = v) (hown : w.ownsRow base e size v n xs) (B : Nat) (A : Option Addr) (c : Nat) (D : List α) (m : Nat) (hm : m = D.length) (hx : a.eval x = .slice A m c) (hT : Rd enc size B A c D w) (hn : n + D.length ≤ 1000000) (hbytes : bytes ≤ 1000) (hbase : base ≤ w.heap.size)
    (h : ∀ v' w', w'.ownsRow base e size v' (n + D.length) (xs ++ D.flatMap enc) → w.grownBy w' v.ownBlock → (v'.ownBlock = v.ownBlock ∨ v'.ownBlock = some w.heap.size) → K (a.put o.dst v') w') :
    if Region.wanted o (yielded ops a.tmps) = true then Oper.wp P o a w K Q else E := by
  subst hm
  have hw : Region.wanted o (yielded ops a.tmps) = true := by simp [Region.wanted, hgd]
  rw [if_pos hw]
  obtain ⟨v', w', hrun, r1, r2, r3⟩ := run_append_rd (P := P) w base t o.type e i z size bytes ht hi hz hsize hby hzc hs0 he h1 v n xs hown B A c D hT hn hbytes hbase
  unfold Oper.wp
  simp [execOp, ho, resolve, invoke, builtin, hs, hx, hrun, Result.andThen]
  exact h v' w' r1 r2 r3
end
end
end Go.Proofs.YtnfagaccbkeikaaGreatDoor
