/- RichSame, Held, RichBrk, RichCatch, RichClone, RichParse, RichMeasure -/
import Derived.Test.YtoglbogfoolkaaaDoorPkgLessRowG14
import Derived.Test.YtoglbogfoolkaaaDoorPkgLessRowG13
import Derived.Test.YtoglbogfoolkaaaDoorPkgLessRowG17
import Derived.Test.YtoglbogfoolkaaaDoorPkgLessRowG16
import Derived.Test.YtoglbogfoolkaaaDoorPkgLessRowG15
import Derived.Deep.QuietTactic
import Derived.BigQuiet
import Derived.StillTailTactics
import Derived.Deep.RegionHeld3
import Derived.Deep.RegionLaw
import Derived.Defers
import Derived.Recover
namespace Go.Proofs.YtoglbogfoolkaaaDoor
section
/- Walks: are two rich dependencies the same (chandleryref08.Same). -/






open Go.RowKit Go.Shelf
set_option linter.unusedVariables false

mutual
def RV.ht : RV → Nat | .node _ _ _ _ l => htL l + 1
def htL : List RV → Nat | [] => 0 | a :: l => max a.ht (htL l)
end
theorem ht_mem {a : RV} : ∀ {l : List RV}, a ∈ l → a.ht ≤ htL l
  | [], h => by simp at h
  | b :: l, h => by
    simp only [htL]
    rcases List.mem_cons.1 h with rfl | h
    · exact Nat.le_max_left _ _
    · exact Nat.le_trans (ht_mem h) (Nat.le_max_right _ _)
theorem ht_args (t : RV) : t.ht = htL t.args + 1 := by obtain ⟨k, d, A, c, l⟩ := t; rfl
theorem tree_parts (t : RV) : t.tree = .mk t.kind t.dep (treeL t.args) := by obtain ⟨k, d, A, c, l⟩ := t; rfl
theorem RTree.rrow {B : Nat} {W : World} {t : RV} (h : RTree B W t) : RRow B W t.addr t.cap t.args := ⟨h.row, h.sub⟩
theorem treeL_get (l : List RV) (k : Nat) (h : k < l.length) : (treeL l)[k]'(by rw [treeL_len]; exact h) = l[k].tree := by
  induction l generalizing k with
  | nil => simp at h
  | cons a l ih => cases k with
    | zero => simp [treeL]
    | succ k => simp only [treeL, List.getElem_cons_succ]; exact ih k (by simpa using h)
end
section
/- A drawn region walked by hand, where a guard is false: what is not wanted is taken first too. -/


section
variable {P : Program} {ops : Array Oper} {Q : Exit → Act → World → Prop} {md : Region.Mode} {S : World → Prop}
theorem held_take (i : Nat) (d : Option Tmp) (v : Value) {oi : Oper} {fuel : Nat} {listed : Array Bool} {a : Act} {w : World} (hi : ops[i]? = some oi) (hd : oi.dst = d)
    (hs : Region.noSelect ops = true) (hf : Region.free md ops listed i = true) (hr : (Region.ready md ops listed).contains i = true)
    (hQ : ∀ c a w, Q (.panic c) (a.put d v) w → Q (.panic c) a w) (hS : S w) (hw : Region.wanted oi (yielded ops a.tmps) = true) (hy : ∀ w, S w → (execOp a.eval oi).run P w = .ok (.value v) w)
    (h : wpAnyH P md ops Q S fuel (listed.setIfInBounds i true) (a.put d v) w) : wpAnyH P md ops Q S (fuel + 1) listed a w := by
  subst hd
  exact wpAnyH_take hi hs hf hr hQ (.inl ⟨hw, hy⟩) hS h
end
end
section
/- Walks: all that is no plain dependency is read (rich.reader's bracket): the walk. -/




open Go.RowKit Go.Shelf
set_option linter.unusedVariables false

def lenOf : Option Value → Nat | some (.slice _ n _) => n | _ => 0
theorem rd_lit (w : World) (t : RV) : Rd encR 7 (w.heap.size + 1) (some ⟨w.heap.size, 0, none⟩) 1 [t] (w.alloc (.cells #[.int .u8 t.kind, .string (bs t.dep.name), .int .u8 t.dep.op, .int .i64 t.dep.evr.epoch, .string (bs t.dep.evr.ver), .string (bs t.dep.evr.rel), .slice t.addr t.args.length t.cap] 41)) := by
  refine ⟨Nat.le_refl _, by decide, fun k hk => ⟨w.heap.size, 0, rfl, Nat.lt_succ_self _, fun j u hu => ?_⟩⟩
  have hk0 : k = 0 := by simp at hk; omega
  subst hk0
  rw [Nat.zero_mul, Nat.add_zero, Nat.zero_add]
  refine (World.cell?_alloc_at _ _ _ _ rfl).trans ?_
  rw [← Array.getElem?_toList]
  exact hu
end
section
/- Walks: the closure that rich.Parse defers: it recovers what a part was refused with. -/






open Go.RowKit Go.Shelf
set_option linter.unusedVariables false

theorem tm3 (a b c : Value) : #[a, b, c] ++ Array.replicate 19 undef = #[a, b, c, undef, undef, undef, undef, undef, undef, undef, undef, undef, undef, undef, undef, undef, undef, undef, undef, undef, undef, undef] := by
  apply Array.ext'
  rw [Array.toList_append, Array.toList_replicate]
  rfl
end
section
/- Walks: slices.Clone of the words of a text. -/



open Go.RowKit Go.Shelf
set_option linter.unusedVariables false

section
variable {P : Program} {α : Type} {enc : α → List Value} (w : World)
theorem wpList_append_rd {ops : Array Oper} {rest : List Oper} {o : Oper} {a : Act} {Q : Exit → Act → World → Prop} (hgd : o.guard = none) (s x : Operand) (t : TypeId)
    (ho : o.op = .call { callee := .builtin .append, args := #[s, x], argTypes := #[t, t] })
    (base : Nat) (e : TypeId) (i : TypeInfo) (z : Value) (size bytes : Nat) (ht : P.underlying t = some (.slice e)) (hi : P.info? e = some i) (hz : i.zero = some z) (hsize : i.size = size) (hby : i.bytes = bytes) (hzc : z.cells.size = size) (hs0 : 0 < size)
    (he : ∀ x, (enc x).length = size) (h1 : ∀ x, ∀ u ∈ enc x, u.oneCell' = true)
    (v : Value) (n : Nat) (xs : List Value) (hs : a.eval s = v) (hown : w.ownsRow base e size v n xs) (B : Nat) (A : Option Addr) (c : Nat) (D : List α) (m : Nat) (hm : m = D.length) (hx : a.eval x = .slice A m c) (hT : Rd enc size B A c D w) (hn : n + D.length ≤ 1000000) (hbytes : bytes ≤ 1000) (hbase : base ≤ w.heap.size)
    (h : ∀ v' w', w'.ownsRow base e size v' (n + D.length) (xs ++ D.flatMap enc) → w.grownBy w' v.ownBlock → (v'.ownBlock = v.ownBlock ∨ v'.ownBlock = some w.heap.size) → wpList P ops Q rest (a.put o.dst v') w') :
    wpList P ops Q (o :: rest) a w := by
  subst hm
  refine wpList_plain hgd fun _ hK => ?_
  obtain ⟨v', w', hrun, r1, r2, r3⟩ := run_append_rd (P := P) w base t o.type e i z size bytes ht hi hz hsize hby hzc hs0 he h1 v n xs hown B A c D hT hn hbytes hbase
  unfold Oper.wp
  simp [execOp, ho, resolve, invoke, builtin, hs, hx, hrun, Result.andThen]
  exact hK _ _ (h v' w' r1 r2 r3)
end
end
section
/- Walks: the rich dependency of a text (rich.Parse). -/





open Go.RowKit Go.Shelf
set_option linter.unusedVariables false

/-- the three results, which the closure may write -/
structure Res (m : Nat) (a0 a1 a2 a3 a4 a5 a6 v3 v4 : Value) (W : World) : Prop where
  box : Box7 m a0 a1 a2 a3 a4 a5 a6 W
  c3 : W.cell? ⟨m + 1, 0, none⟩ = some v3
  c4 : W.cell? ⟨m + 1 + 1, 0, none⟩ = some v4
  f3 : W.frozen? ⟨m + 1, 0, none⟩ = false
  f4 : W.frozen? ⟨m + 1 + 1, 0, none⟩ = false
  lt : m + 2 < W.heap.size
section
variable {m : Nat} {a0 a1 a2 a3 a4 a5 a6 v3 v4 : Value} {W W' : World}
theorem Res.past (h : Res m a0 a1 a2 a3 a4 a5 a6 v3 v4 W) (hb : Below (m + 3) W W') : Res m a0 a1 a2 a3 a4 a5 a6 v3 v4 W' where
  box := h.box.past (hb.mono (by omega))
  c3 := (hb.cell (p := ⟨m + 1, 0, none⟩) (by show m + 1 < m + 3; omega)).trans h.c3
  c4 := (hb.cell (p := ⟨m + 1 + 1, 0, none⟩) (by show m + 2 < m + 3; omega)).trans h.c4
  f3 := (hb.frozen (p := ⟨m + 1, 0, none⟩) (by show m + 1 < m + 3; omega)).trans h.f3
  f4 := (hb.frozen (p := ⟨m + 1 + 1, 0, none⟩) (by show m + 2 < m + 3; omega)).trans h.f4
  lt := Nat.lt_of_lt_of_le h.lt hb.size
theorem Res.then (h : Res m a0 a1 a2 a3 a4 a5 a6 v3 v4 W) (hb : Below W.heap.size W W') : Res m a0 a1 a2 a3 a4 a5 a6 v3 v4 W' := h.past (hb.mono h.lt)
theorem Res.butR {R : Nat} (h : Res m a0 a1 a2 a3 a4 a5 a6 v3 v4 W) (hb : ButR R W W') (hR : m + 3 ≤ R) (hl : R < W.heap.size) : Res m a0 a1 a2 a3 a4 a5 a6 v3 v4 W' := h.past (hb.below hR hl)
theorem Res.new (w : World) (e3 e4 : TypeId) (v3 v4 : Value) (e : TypeId) : Res w.heap.size a0 a1 a2 a3 a4 a5 a6 v3 v4 (((w.alloc (.cells #[a0, a1, a2, a3, a4, a5, a6] e)).alloc (.cells #[v3] e3)).alloc (.cells #[v4] e4)) := by
  have z1 : (w.alloc (.cells #[a0, a1, a2, a3, a4, a5, a6] e)).heap.size = w.heap.size + 1 := by simp
  have z2 : ((w.alloc (.cells #[a0, a1, a2, a3, a4, a5, a6] e)).alloc (.cells #[v3] e3)).heap.size = w.heap.size + 2 := by simp
  refine ⟨(((Box7.new w a0 a1 a2 a3 a4 a5 a6 e).past ((Below.refl _ _).alloc (by omega) _)).past ((Below.refl _ _).alloc (by omega) _)), ?_, ?_, ?_, ?_, by simp⟩
  · simp [go_sem]
  · simp [go_sem]
  · simp [go_sem]
  · simp [go_sem]
theorem Res.store (h : Res m a0 a1 a2 a3 a4 a5 a6 v3 v4 W) (b0 b1 b2 b3 b4 b5 b6 : Value) : Res m b0 b1 b2 b3 b4 b5 b6 v3 v4 (store7 m b0 b1 b2 b3 b4 b5 b6 W) where
  box := h.box.store b0 b1 b2 b3 b4 b5 b6
  c3 := (World.cell?_of_block (w := W) (a := ⟨m + 1, 0, none⟩) (store7_block _ _ _ _ _ _ _ _ _ (by show m + 1 ≠ m; omega))).trans h.c3
  c4 := (World.cell?_of_block (w := W) (a := ⟨m + 1 + 1, 0, none⟩) (store7_block _ _ _ _ _ _ _ _ _ (by show m + 2 ≠ m; omega))).trans h.c4
  f3 := (World.frozen?_of_block (w := W) (a := ⟨m + 1, 0, none⟩) (store7_block _ _ _ _ _ _ _ _ _ (by show m + 1 ≠ m; omega))).trans h.f3
  f4 := (World.frozen?_of_block (w := W) (a := ⟨m + 1 + 1, 0, none⟩) (store7_block _ _ _ _ _ _ _ _ _ (by show m + 2 ≠ m; omega))).trans h.f4
  lt := by rw [store7_size]; exact h.lt
end
end
section
/- Walks: of how many parts a rich dependency is, how deep, and whether each has what it should (rich.measure); is it whole (rich.Whole). -/




open Go.RowKit Go.Shelf
set_option linter.unusedVariables false

theorem deepL_take {l : List RT} {k : Nat} (hk : k < l.length) : deepL (l.take (k + 1)) = max (deepL (l.take k)) l[k].deep := by rw [take_snoc l k hk, deepL_app]; simp [deepL]
theorem partsL_mono : ∀ (l : List RT) (k : Nat), partsL (l.take k) ≤ partsL l
  | [], k => by simp [partsL]
  | a :: l, 0 => by simp [partsL]
  | a :: l, k + 1 => by have := partsL_mono l k; simp only [List.take_succ_cons, partsL]; omega
theorem deep_parts : ∀ t : RT, t.deep ≤ t.parts
  | .mk k d l => by
    simp only [RT.deep, RT.parts]
    split
    · omega
    · have := deepL_parts l; omega
where
  deepL_parts : ∀ l : List RT, deepL l ≤ partsL l
    | [] => by simp [deepL]
    | a :: l => by have := deep_parts a; have := deepL_parts l; simp only [deepL, partsL]; omega
end
end Go.Proofs.YtoglbogfoolkaaaDoor
