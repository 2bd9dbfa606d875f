/- DepShow, AppendTR -/
import Derived.Test.YtoglbogfoolkaaaGreatDoorRichTellsRowG23
import Derived.Test.YtoglbogfoolkaaaGreatDoorRichTellsRowG03
import Derived.Maps.AppendAt
namespace Go.Proofs.YtoglbogfoolkaaaGreatDoor
section
/- Walks: texts of dependencies; the dependency of a text. -/


open Go.RowKit Go.Shelf

theorem wordsL_yes {d : Dp} (h : dmayB d = true) : wordsL d = (dwords d).map bs ∧ codeD d = 0 := by unfold wordsL codeD; rw [h, if_pos rfl]; exact ⟨rfl, rfl⟩
end
section
/- append of a slice of texts that came in, wherever it lies, nil too, onto a row of the call's own. -/



open Go.RowKit

section
variable {P : Program} (w : World)
theorem run_append_none (base : Nat) (t ty e : TypeId) (i : TypeInfo) (size : Nat) (ht : P.underlying t = some (.slice e)) (hi : P.info? e = some i)
    (v : Value) (n : Nat) (xs : List Value) (hown : w.ownsRow base e size v n xs) (c : Nat) : (Builtin.append_ #[t, t] ty #[v, .slice none 0 c]).run P w = .ok v w := by
  rcases hown.2 with ⟨rfl, rfl⟩ | ⟨g, cap, cur, rfl, _, _, hnc, _⟩
  · simp [Builtin.append_, run_underlying ht, sizeOf, typeInfo, hi, Builtin.lenOf, Builtin.firstCells]
  · simp [Builtin.append_, run_underlying ht, sizeOf, typeInfo, hi, Builtin.lenOf, Builtin.firstCells, hnc, storeCells]
theorem run_append_tr (base : Nat) (t ty e : TypeId) (i : TypeInfo) (ht : P.underlying t = some (.slice e)) (hi : P.info? e = some i) (hz : i.zero = some (.string { data := #[] })) (hsize : i.size = 1) (hby : i.bytes = 16)
    (v : Value) (n : Nat) (xs : List Value) (hown : w.ownsRow base e 1 v n xs) (A : Option Addr) (c : Nat) (D : List ByteArray) (hT : TR w A D) (h63 : n + D.length ≤ maxLen) (hbytes : (n + D.length) * 16 ≤ 140737488355328) (hbase : base ≤ w.heap.size) :
    ∃ v' w', (Builtin.append_ #[t, t] ty #[v, .slice A D.length c]).run P w = .ok v' w' ∧ w'.ownsRow base e 1 v' (n + D.length) (xs ++ D.map Value.string) ∧ w.grownBy w' v.ownBlock ∧ (v'.ownBlock = v.ownBlock ∨ v'.ownBlock = some w.heap.size) := by
  cases A with
  | none =>
    have hD : D = [] := by
      cases D with
      | nil => rfl
      | cons x D => obtain ⟨b, o, e, _⟩ := hT 0 (by simp); cases e
    subst hD
    exact ⟨v, w, run_append_none w base t ty e i 1 ht hi v n xs hown c, by simpa using hown, World.grownBy.refl w _, .inl rfl⟩
  | some ad =>
    obtain ⟨v', w', hrun, r1, r2, _, r4⟩ := run_append_own_at (P := P) w base t ty e i (.string { data := #[] }) 1 16 ht hi hz hsize hby rfl (by decide) v n xs hown ad D.length c (D.map Value.string) (by simp) (fun j u hu => by
      obtain ⟨hj, rfl⟩ := List.getElem?_eq_some_iff.1 hu
      obtain ⟨b, o, e2, _, hc⟩ := hT j (by simpa using hj)
      cases e2
      rw [Addr.add_lit]
      simpa using hc) (fun u hu => by obtain ⟨x, _, rfl⟩ := List.mem_map.1 hu; rfl) h63 hbytes hbase
    exact ⟨v', w', hrun, r1, r2, r4⟩
theorem wpList_append_tr {ops : Array Oper} {rest : List Oper} {o : Oper} {a : Act} {Q : Exit → Act → World → Prop} (hgd : o.guard = none) (s x : Operand) (t : TypeId)
    (ho : o.op = .call { callee := .builtin .append, args := #[s, x], argTypes := #[t, t] })
    (base : Nat) (e : TypeId) (i : TypeInfo) (ht : P.underlying t = some (.slice e)) (hi : P.info? e = some i) (hz : i.zero = some (.string { data := #[] })) (hsize : i.size = 1) (hby : i.bytes = 16)
    (v : Value) (n : Nat) (xs : List Value) (hs : a.eval s = v) (hown : w.ownsRow base e 1 v n xs) (A : Option Addr) (c : Nat) (D : List ByteArray) (m : Nat) (hm : m = D.length) (hx : a.eval x = .slice A m c) (hT : TR w A D) (h63 : n + D.length ≤ maxLen) (hbytes : (n + D.length) * 16 ≤ 140737488355328) (hbase : base ≤ w.heap.size)
    (h : ∀ v' w', w'.ownsRow base e 1 v' (n + D.length) (xs ++ D.map Value.string) → w.grownBy w' v.ownBlock → (v'.ownBlock = v.ownBlock ∨ v'.ownBlock = some w.heap.size) → wpList P ops Q rest (a.put o.dst v') w') :
    wpList P ops Q (o :: rest) a w := by
  subst hm
  refine wpList_plain hgd fun _ hK => ?_
  obtain ⟨v', w', hrun, r1, r2, r3⟩ := run_append_tr (P := P) w base t o.type e i ht hi hz hsize hby v n xs hown A c D hT h63 hbytes hbase
  unfold Oper.wp
  simp [execOp, ho, resolve, invoke, builtin, hs, hx, hrun, Result.andThen]
  exact hK _ _ (h v' w' r1 r2 r3)
end
end
end Go.Proofs.YtoglbogfoolkaaaGreatDoor
