/- RichAtom, AppendRd -/
import Derived.Test.YtoglbogfoolkaaaDoorPkgLessRowG14
import Derived.Test.YtoglbogfoolkaaaDoorPkgLessRowG15
import Derived.Test.YtoglbogfoolkaaaDoorPkgLessRowG08
import Derived.Test.YtoglbogfoolkaaaDoorPkgLessRowG10
import Derived.Deep.QuietTactic
import Derived.BigQuiet
import Derived.Deep.RegionHeld3
import Derived.Laws.IdiomStrings
import Derived.RegionTactic
import Derived.ChangeAlike
import Derived.Maps.AppendAt
namespace Go.Proofs.YtoglbogfoolkaaaDoor
section
/- Walks: a plain dependency is read out of words (rich.reader's plain). -/





open Go.RowKit Go.Shelf
set_option linter.unusedVariables false

theorem Box7.past {m : Nat} {a0 a1 a2 a3 a4 a5 a6 : Value} {W W' : World} (h : Box7 m a0 a1 a2 a3 a4 a5 a6 W) (hb : Below (m + 1) W W') : Box7 m a0 a1 a2 a3 a4 a5 a6 W' := by
  obtain ⟨⟨h0, h1, h2, h3, h4, h5, h6⟩, ⟨f0, f1, f2, f3, f4, f5, f6⟩, hl⟩ := h
  have hc : ∀ i, W'.cell? ⟨m, i, none⟩ = W.cell? ⟨m, i, none⟩ := fun i => hb.cell (p := ⟨m, i, none⟩) (Nat.lt_succ_self m)
  have hf : ∀ i, W'.frozen? ⟨m, i, none⟩ = W.frozen? ⟨m, i, none⟩ := fun i => hb.frozen (p := ⟨m, i, none⟩) (Nat.lt_succ_self m)
  exact ⟨⟨(hc 0).trans h0, (hc 1).trans h1, (hc 2).trans h2, (hc 3).trans h3, (hc 4).trans h4, (hc 5).trans h5, (hc 6).trans h6⟩, ⟨(hf 0).trans f0, (hf 1).trans f1, (hf 2).trans f2, (hf 3).trans f3, (hf 4).trans f4, (hf 5).trans f5, (hf 6).trans f6⟩, Nat.lt_of_lt_of_le hl hb.size⟩
theorem own_lit {α : Type} {enc : α → List Value} {size base : Nat} {e : TypeId} (w : World) (x : α) (cs : Array Value) (hcs : cs.toList = enc x) (hs : (enc x).length = size) (hb : base ≤ w.heap.size) :
    Own enc size base e (.slice (some ⟨w.heap.size, 0, none⟩) 1 1) [x] (w.alloc (.cells cs e)) := by
  have hcs2 : cs.size = size := by rw [← Array.length_toList, hcs, hs]
  refine ⟨by simp [hs], .inr ⟨w.heap.size, 1, cs, rfl, hb, World.alloc_heap_new w _, Nat.le_refl _, by decide, by rw [hcs2, Nat.one_mul], ?_⟩⟩
  rw [List.length_singleton, Nat.one_mul, List.take_of_length_le (by rw [Array.length_toList]; omega), hcs]
  simp
/-- what the end of plain comes to, the words being gathered -/
structure Gathered (w0 : World) (R e o : Nat) (ws : List Tok) (n : Nat) (j : Nat) (W : World) (v : Value) (wr : World) : Prop where
  but : ButR R W wr
  box : Box7 W.heap.size (.int .u8 0) (.string ⟨#[]⟩) (.int .u8 0) (.int .i64 0) (.string ⟨#[]⟩) (.string ⟨#[]⟩) (.slice none 0 0) wr
  own : Own encStr 1 (W.heap.size + 1) 9 v ((txt (ws.take (1 + j))).map bs) wr
  st : ∃ A c, St w0 R e (ws.drop (1 + j)) (n + 1) o A c wr
theorem Gathered.same {w0 : World} {R e o n j : Nat} {ws : List Tok} {W wr w' : World} {v : Value} (h : Gathered w0 R e o ws n j W v wr) (hd : ws.drop (1 + j) = []) (hb : ButR R wr w') (hS : ∃ A c, St w0 R e [] (n + 1) o A c w') (hR : R < W.heap.size) : Gathered w0 R e o ws n (j + 1) W v w' := by
  have hl := List.drop_eq_nil_iff.1 hd
  refine ⟨h.but.trans hb, h.box.butR hb (by omega), ?_, ?_⟩
  · rw [List.take_of_length_le (by omega)]
    have := h.own
    rw [List.take_of_length_le hl] at this
    exact this.butR hb (by omega)
  · rw [List.drop_eq_nil_iff.2 (by omega)]; exact hS
theorem Gathered.more {w0 : World} {R e o n j : Nat} {ws : List Tok} {W wr w5 w6 : World} {v v1 : Value} {y : Tok} {r : List Tok} {LL : List ByteArray} {cs : Obj} (h : Gathered w0 R e o ws n j W v wr) (hd : ws.drop (1 + j) = y :: r) (hb : ButR R wr w5) (hS : ∃ A c, St w0 R e r (n + 1) o A c w5) (hR : R < W.heap.size)
    (hLL : LL = List.map bs (txt (List.take (1 + j) ws))) (ho : w6.ownsRow (W.heap.size + 1) 9 1 v1 (LL.length + 1) (LL.flatMap encStr ++ [.string (bs y.2)])) (hg : (w5.alloc cs).grownBy w6 v.ownBlock) : Gathered w0 R e o ws n (j + 1) W v1 w6 := by
  have hl : 1 + j < ws.length := by
    have := congrArg List.length hd
    simp only [List.length_drop, List.length_cons] at this
    omega
  have he := List.drop_eq_getElem_cons hl
  rw [hd] at he
  obtain ⟨h1, h2⟩ := List.cons.inj he
  have ht : List.map bs (txt (ws.take (1 + (j + 1)))) = LL ++ [bs y.2] := by
    rw [hLL, show 1 + (j + 1) = 1 + j + 1 by omega, take_snoc _ _ hl, ← h1]
    simp [txt]
  have hm := h.box.2.2
  have hz := hb.size
  have hr : ∀ k, v.ownBlock = some k → W.heap.size + 1 ≤ k := fun k e => (World.ownsRow.lt h.own k e).1
  have hG : ∀ {B : Nat}, B ≤ W.heap.size + 1 → Below B (w5.alloc cs) w6 := fun hB => (Below.refl _ _).grown hg (by simp; omega) (fun k e => Nat.le_trans hB (hr k e))
  refine ⟨((h.but.trans hb).alloc _).grown hg (fun k e => Nat.le_of_succ_le (hr k e)), (((h.box.butR hb (by omega)).butR ((ButR.refl R _).alloc cs) (by omega))).past (hG (Nat.le_refl _)), ?_, ?_⟩
  · rw [ht]; exact Own.snoc ho
  · obtain ⟨A, c, hS⟩ := hS
    rw [show ws.drop (1 + (j + 1)) = r by rw [show 1 + (j + 1) = 1 + j + 1 by omega]; exact h2.symm]
    exact ⟨A, c, (hS.then ((Below.refl _ _).alloc (Nat.le_refl _) cs)).past (hG (by omega))⟩
end
section
/- append of a slice that came in, of whatever elements, nil too, onto a row of the call's own. -/



open Go.RowKit

theorem len_flat {α β : Type} {enc : α → List β} {size : Nat} (he : ∀ x, (enc x).length = size) : ∀ D : List α, (D.flatMap enc).length = D.length * size
  | [] => by simp
  | x :: D => by rw [List.flatMap_cons, List.length_append, he, len_flat he D, List.length_cons, Nat.add_mul]; omega
section
variable {P : Program} {α : Type} {enc : α → List Value} (w : World)
theorem run_append_nil (base : Nat) (t ty e : TypeId) (i : TypeInfo) (size : Nat) (ht : P.underlying t = some (.slice e)) (hi : P.info? e = some i)
    (v : Value) (n : Nat) (xs : List Value) (hown : w.ownsRow base e size v n xs) (c : Nat) : (Builtin.append_ #[t, t] ty #[v, .slice none 0 c]).run P w = .ok v w := by
  rcases hown.2 with ⟨rfl, rfl⟩ | ⟨g, cap, cur, rfl, _, _, hnc, _⟩
  · simp [Builtin.append_, run_underlying ht, sizeOf, typeInfo, hi, Builtin.lenOf, Builtin.firstCells]
  · simp [Builtin.append_, run_underlying ht, sizeOf, typeInfo, hi, Builtin.lenOf, Builtin.firstCells, hnc, storeCells]
theorem run_append_rd (base : Nat) (t ty e : TypeId) (i : TypeInfo) (z : Value) (size bytes : Nat) (ht : P.underlying t = some (.slice e)) (hi : P.info? e = some i) (hz : i.zero = some z) (hsize : i.size = size) (hby : i.bytes = bytes) (hzc : z.cells.size = size) (hs0 : 0 < size)
    (he : ∀ x, (enc x).length = size) (h1 : ∀ x, ∀ u ∈ enc x, u.oneCell' = true)
    (v : Value) (n : Nat) (xs : List Value) (hown : w.ownsRow base e size v n xs) (B : Nat) (A : Option Addr) (c : Nat) (D : List α) (hT : Rd enc size B A c D w) (hn : n + D.length ≤ 1000000) (hbytes : bytes ≤ 1000) (hbase : base ≤ w.heap.size) :
    ∃ v' w', (Builtin.append_ #[t, t] ty #[v, .slice A D.length c]).run P w = .ok v' w' ∧ w'.ownsRow base e size v' (n + D.length) (xs ++ D.flatMap enc) ∧ w.grownBy w' v.ownBlock ∧ (v'.ownBlock = v.ownBlock ∨ v'.ownBlock = some w.heap.size) := by
  cases A with
  | none =>
    have hD : D = [] := by
      cases D with
      | nil => rfl
      | cons x D => obtain ⟨b, o, e, _⟩ := hT.2.2 0 (by simp); cases e
    subst hD
    exact ⟨v, w, run_append_nil w base t ty e i size ht hi v n xs hown c, by simpa using hown, World.grownBy.refl w _, .inl rfl⟩
  | some ad =>
    obtain ⟨v', w', hrun, r1, r2, _, r4⟩ := run_append_own_at (P := P) w base t ty e i z size bytes ht hi hz hsize hby hzc hs0 v n xs hown ad D.length c (D.flatMap enc) (len_flat he D) (fun j u hu => by
      have hj : j < D.length * size := by
        have := (List.getElem?_eq_some_iff.1 hu).1
        rw [len_flat he] at this
        exact this
      have hk : j / size < D.length := Nat.div_lt_of_lt_mul (by rw [Nat.mul_comm]; exact hj)
      obtain ⟨b, o, e2, _, hc⟩ := hT.2.2 (j / size) hk
      cases e2
      rw [Addr.add_lit]
      have hd := Nat.div_add_mod j size
      have h3 := flatMap_at enc size he D (j / size) hk (j % size) (Nat.mod_lt _ hs0)
      rw [show j / size * size + j % size = j by rw [Nat.mul_comm]; exact hd, hu] at h3
      have h4 := hc (j % size) u h3.symm
      rw [show o + j / size * size + j % size = o + j by rw [Nat.add_assoc, Nat.mul_comm (j / size)]; rw [hd]] at h4
      exact h4) (fun u hu => by obtain ⟨x, _, hx⟩ := List.mem_flatMap.1 hu; exact h1 x u hx) (by unfold maxLen; omega) (by have := Nat.mul_le_mul hn hbytes; omega) hbase
    exact ⟨v', w', hrun, r1, r2, r4⟩
/-- the same, as a step of a region that draws -/
theorem step_append_rd {ops : Array Oper} {o : Oper} {a : Act} {K : Act → World → Prop} {Q : Exit → Act → World → Prop} {E : Prop} (hgd : o.guard = none) (s x : Operand) (t : TypeId)
    (ho : o.op = .call { callee := .builtin .append, args := #[s, x], argTypes := #[t, t] })
    (base : Nat) (e : TypeId) (i : TypeInfo) (z : Value) (size bytes : Nat) (ht : P.underlying t = some (.slice e)) (hi : P.info? e = some i) (hz : i.zero = some z) (hsize : i.size = size) (hby : i.bytes = bytes) (hzc : z.cells.size = size) (hs0 : 0 < size)
    (he : ∀ x, (enc x).length = size) (h1 : ∀ x, ∀ u ∈ enc x, u.oneCell' = true)
    (v : Value) (n : Nat) (xs : List Value) (hs : a.eval s = v) (hown : w.ownsRow base e size v n xs) (B : Nat) (A : Option Addr) (c : Nat) (D : List α) (m : Nat) (hm : m = D.length) (hx : a.eval x = .slice A m c) (hT : Rd enc size B A c D w) (hn : n + D.length ≤ 1000000) (hbytes : bytes ≤ 1000) (hbase : base ≤ w.heap.size)
    (h : ∀ v' w', w'.ownsRow base e size v' (n + D.length) (xs ++ D.flatMap enc) → w.grownBy w' v.ownBlock → (v'.ownBlock = v.ownBlock ∨ v'.ownBlock = some w.heap.size) → K (a.put o.dst v') w') :
    if Region.wanted o (yielded ops a.tmps) = true then Oper.wp P o a w K Q else E := by
  subst hm
  have hw : Region.wanted o (yielded ops a.tmps) = true := by simp [Region.wanted, hgd]
  rw [if_pos hw]
  obtain ⟨v', w', hrun, r1, r2, r3⟩ := run_append_rd (P := P) w base t o.type e i z size bytes ht hi hz hsize hby hzc hs0 he h1 v n xs hown B A c D hT hn hbytes hbase
  unfold Oper.wp
  simp [execOp, ho, resolve, invoke, builtin, hs, hx, hrun, Result.andThen]
  exact h v' w' r1 r2 r3
end
end
end Go.Proofs.YtoglbogfoolkaaaDoor
