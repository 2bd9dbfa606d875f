/- RichMeasure, RichBracket, Held, RichBrk, RichCatch, RichClone, RlLaw0, RichWords, RichAw0, RichBx -/
import Derived.Test.YtcpjignlhlcnpaaDoorPkgNamesRowG21
import Derived.Test.YtcpjignlhlcnpaaDoorPkgNamesRowG19
import Derived.Test.YtcpjignlhlcnpaaDoorPkgNamesRowG14
import Derived.Test.YtcpjignlhlcnpaaDoorPkgNamesRowG11
import Derived.Test.YtcpjignlhlcnpaaDoorPkgNamesRowG18
import Derived.Test.YtcpjignlhlcnpaaDoorPkgNamesRowG17
import Derived.Test.YtcpjignlhlcnpaaDoorPkgNamesRowG01
import Derived.Test.YtcpjignlhlcnpaaDoorPkgNamesRowG15
import Derived.Deep.RegionLaw
import Derived.Deep.RegionHeld3
import Derived.Deep.QuietTactic
import Derived.BigQuiet
import Derived.Defers
import Derived.Recover
import Derived.RangeFuncNested
import Derived.RangeFuncBound
import Derived.RangeFuncCalls
import Derived.RangeFuncLeaves
import Derived.RangeFuncBox
import Derived.Shelf.Abstract
import Derived.Shelf.RegionOpen
import Derived.OwnWalkIn
import Derived.TacticsInMore
import Derived.LoopNIn
import Derived.LoopIn
import Derived.Test.YtcpjignlhlcnpaaDoorShelf
import Derived.Shelf.Strings.BuilderX
import Derived.Lib.Builder
import Derived.Lib.AppendStr
import Derived.Lib.UnsafeStr
import Derived.Laws.Externs
import Derived.RegionTactic
import Derived.ChangeAlike
import Derived.Lib.SplitLaws
import Derived.Maps.AppendAt
set_option linter.unusedSimpArgs false
set_option linter.unusedVariables false
namespace Go.Proofs.YtcpjignlhlcnpaaDoor
section
/- Walks: of how many parts a rich dependency is, how deep, and whether each has what it should (rich.measure); is it whole (rich.Whole). -/




open Go.RowKit Go.Shelf
set_option linter.unusedVariables false

theorem deepL_take {l : List RT} {k : Nat} (hk : k < l.length) : deepL (l.take (k + 1)) = max (deepL (l.take k)) l[k].deep := by rw [take_snoc l k hk, deepL_app]; simp [deepL]
theorem deep_parts : ∀ t : RT, t.deep ≤ t.parts
  | .mk k d l => by
    simp only [RT.deep, RT.parts]
    split
    · omega
    · have := deepL_parts l; omega
where
  deepL_parts : ∀ l : List RT, deepL l ≤ partsL l
    | [] => by simp [deepL]
    | a :: l => by have := deep_parts a; have := deepL_parts l; simp only [deepL, partsL]; omega
end
section
/- Walks: all that is no plain dependency is read (rich.reader's bracket). -/




open Go.RowKit Go.Shelf
set_option linter.unusedVariables false

theorem encR_len (t : RV) : (encR t).length = 7 := rfl
theorem encR_one (t : RV) : ∀ u ∈ encR t, u.oneCell' = true := by
  intro u hu
  simp only [encR, List.mem_cons, List.not_mem_nil, or_false] at hu
  rcases hu with rfl | rfl | rfl | rfl | rfl | rfl | rfl <;> rfl
def zBox (m : Nat) (W : World) : Prop := Box7 m (.int .u8 0) (.string ⟨#[]⟩) (.int .u8 0) (.int .i64 0) (.string ⟨#[]⟩) (.string ⟨#[]⟩) (.slice none 0 0) W
section
variable {w0 W wr w' : World} {R e o m m2 n n' : Nat} {k k' : Int} {l : List RV} {v : Value} {ws ws' : List Tok}
theorem box7_set6 {a0 a1 a2 a3 a4 a5 a6 : Value} (h : Box7 m a0 a1 a2 a3 a4 a5 a6 W) (u : Value) : Box7 m a0 a1 a2 a3 a4 a5 u (W.setCell ⟨m, 6, none⟩ u) := by
  obtain ⟨⟨h0, h1, h2, h3, h4, h5, h6⟩, ⟨f0, f1, f2, f3, f4, f5, f6⟩, hl⟩ := h
  unfold Box7
  refine ⟨⟨?_, ?_, ?_, ?_, ?_, ?_, ?_⟩, ⟨?_, ?_, ?_, ?_, ?_, ?_, ?_⟩, by simpa [World.setCell] using hl⟩
  all_goals simp [go_sem, h0, h1, h2, h3, h4, h5, h6, f0, f1, f2, f3, f4, f5, f6]
end
end
section
/- A drawn region walked by hand, where a guard is false: what is not wanted is taken first too. -/


section
variable {P : Program} {ops : Array Oper} {Q : Exit → Act → World → Prop} {md : Region.Mode} {S : World → Prop}
theorem held_take (i : Nat) (d : Option Tmp) (v : Value) {oi : Oper} {fuel : Nat} {listed : Array Bool} {a : Act} {w : World} (hi : ops[i]? = some oi) (hd : oi.dst = d)
    (hs : Region.noSelect ops = true) (hf : Region.free md ops listed i = true) (hr : (Region.ready md ops listed).contains i = true)
    (hQ : ∀ c a w, Q (.panic c) (a.put d v) w → Q (.panic c) a w) (hS : S w) (hw : Region.wanted oi (yielded ops a.tmps) = true) (hy : ∀ w, S w → (execOp a.eval oi).run P w = .ok (.value v) w)
    (h : wpAnyH P md ops Q S fuel (listed.setIfInBounds i true) (a.put d v) w) : wpAnyH P md ops Q S (fuel + 1) listed a w := by
  subst hd
  exact wpAnyH_take hi hs hf hr hQ (.inl ⟨hw, hy⟩) hS h
end
end
section
/- Walks: all that is no plain dependency is read (rich.reader's bracket): the walk. -/




open Go.RowKit Go.Shelf
set_option linter.unusedVariables false

theorem rd_lit (w : World) (t : RV) : Rd encR 7 (w.heap.size + 1) (some ⟨w.heap.size, 0, none⟩) 1 [t] (w.alloc (.cells #[.int .u8 t.kind, .string (bs t.dep.name), .int .u8 t.dep.op, .int .i64 t.dep.evr.epoch, .string (bs t.dep.evr.ver), .string (bs t.dep.evr.rel), .slice t.addr t.args.length t.cap] 28)) := by
  refine ⟨Nat.le_refl _, by decide, fun k hk => ⟨w.heap.size, 0, rfl, Nat.lt_succ_self _, fun j u hu => ?_⟩⟩
  have hk0 : k = 0 := by simp at hk; omega
  subst hk0
  rw [Nat.zero_mul, Nat.add_zero, Nat.zero_add]
  refine (World.cell?_alloc_at _ _ _ _ rfl).trans ?_
  rw [← Array.getElem?_toList]
  exact hu
end
section
/- Walks: the closure that rich.Parse defers: it recovers what a part was refused with. -/






open Go.RowKit Go.Shelf
set_option linter.unusedVariables false

theorem tm3 (a b c : Value) : #[a, b, c] ++ Array.replicate 19 undef = #[a, b, c, undef, undef, undef, undef, undef, undef, undef, undef, undef, undef, undef, undef, undef, undef, undef, undef, undef, undef, undef] := by
  apply Array.ext'
  rw [Array.toList_append, Array.toList_replicate]
  rfl
end
section
/- Walks: slices.Clone of the words of a text. -/



open Go.RowKit Go.Shelf
set_option linter.unusedVariables false

section
variable {P : Program} {α : Type} {enc : α → List Value} (w : World)
theorem wpList_append_rd {ops : Array Oper} {rest : List Oper} {o : Oper} {a : Act} {Q : Exit → Act → World → Prop} (hgd : o.guard = none) (s x : Operand) (t : TypeId)
    (ho : o.op = .call { callee := .builtin .append, args := #[s, x], argTypes := #[t, t] })
    (base : Nat) (e : TypeId) (i : TypeInfo) (z : Value) (size bytes : Nat) (ht : P.underlying t = some (.slice e)) (hi : P.info? e = some i) (hz : i.zero = some z) (hsize : i.size = size) (hby : i.bytes = bytes) (hzc : z.cells.size = size) (hs0 : 0 < size)
    (he : ∀ x, (enc x).length = size) (h1 : ∀ x, ∀ u ∈ enc x, u.oneCell' = true)
    (v : Value) (n : Nat) (xs : List Value) (hs : a.eval s = v) (hown : w.ownsRow base e size v n xs) (B : Nat) (A : Option Addr) (c : Nat) (D : List α) (m : Nat) (hm : m = D.length) (hx : a.eval x = .slice A m c) (hT : Rd enc size B A c D w) (hn : n + D.length ≤ 1000000) (hbytes : bytes ≤ 1000) (hbase : base ≤ w.heap.size)
    (h : ∀ v' w', w'.ownsRow base e size v' (n + D.length) (xs ++ D.flatMap enc) → w.grownBy w' v.ownBlock → (v'.ownBlock = v.ownBlock ∨ v'.ownBlock = some w.heap.size) → wpList P ops Q rest (a.put o.dst v') w') :
    wpList P ops Q (o :: rest) a w := by
  subst hm
  refine wpList_plain hgd fun _ hK => ?_
  obtain ⟨v', w', hrun, r1, r2, r3⟩ := run_append_rd (P := P) w base t o.type e i z size bytes ht hi hz hsize hby hzc hs0 he h1 v n xs hown B A c D hT hn hbytes hbase
  unfold Oper.wp
  simp [execOp, ho, resolve, invoke, builtin, hs, hx, hrun, Result.andThen]
  exact hK _ _ (h v' w' r1 r2 r3)
end
end
section
/- Walks: what the statements of lex ask first: are these a text's words; are the examples as they are told; is it too long. -/




open Go.RowKit Go.Shelf

theorem Rd.of_block {α : Type} {enc : α → List Value} {size cap g : Nat} {l : List α} {w : World} {cs : Array Value} {t : TypeId} {fz : Nat × Nat} (he : ∀ x, (enc x).length = size)
    (h : w.heap[g]? = some (.cells cs t fz)) (hcs : cs.toList = l.flatMap enc) (hc : l.length ≤ cap) (hm : cap ≤ maxLen) : Rd enc size w.heap.size (some ⟨g, 0, none⟩) cap l w := by
  refine ⟨hc, hm, fun k hk => ⟨g, 0, rfl, (Array.getElem?_eq_some_iff.1 h).1, fun j u hu => ?_⟩⟩
  have hj : j < size := by have := (List.getElem?_eq_some_iff.1 hu).1; rw [he] at this; exact this
  rw [cell_of_row w g _ cs t fz h, ← Array.getElem?_toList, hcs, Nat.zero_add, flatMap_at enc size he l k hk j hj]
  exact hu
end
section
/- Walks: the words of a rich dependency that is whole (rich.words). -/






open Go.RowKit Go.Shelf
set_option linter.unusedVariables false

theorem partsL_get : ∀ {l : List RT} {i : Nat} (h : i < l.length), l[i].parts ≤ partsL l
  | a :: l, 0, h => by simp [partsL]
  | a :: l, i + 1, h => by have := partsL_get (l := l) (i := i) (by simpa using h); simp only [List.getElem_cons_succ, partsL]; omega
end
section
/- Rich dependencies in plain terms: the examples; trees that the call itself lays. -/




open Go.RowKit
set_option linter.unusedVariables false

def atomT (x : Bytes) : RT := .mk 1 ⟨x, 0, zeroE⟩ []
theorem atom_wf (x : Bytes) (h : x.length ≤ maxLen) : Dp.wf ⟨x, 0, zeroE⟩ := ⟨h, rfl, rfl, Nat.zero_le _, Nat.zero_le _⟩
def atomR (x : Bytes) : RV := .node 1 ⟨x, 0, zeroE⟩ none 0 []
theorem atomR_rtree (B : Nat) (W : World) (x : Bytes) (h : x.length ≤ maxLen) : RTree B W (atomR x) := .mk (atom_wf x h) (Rd.nil_ (Nat.zero_le _)) (fun a ha => by simp [atomR, RV.args] at ha)
/-- a row that the call itself lays -/
theorem lit_rd {w : World} {l : List RV} {cs : Array Value} {e : TypeId} {n : Nat} (hn : l.length = n) (hcs : cs.toList = l.flatMap encR) (hm : n ≤ maxLen) : Rd encR 7 (w.heap.size + 1) (some ⟨w.heap.size, 0, none⟩) n l (w.alloc (.cells cs e)) := by
  subst hn
  have := Rd.of_block (enc := encR) (size := 7) (cap := l.length) (g := w.heap.size) (l := l) (w := w.alloc (.cells cs e)) (cs := cs) (t := e) (fz := (0, 0)) (fun _ => rfl) (World.alloc_heap_new w _) hcs (Nat.le_refl _) hm
  simpa using this
theorem lit_tree {w : World} {l : List RV} {cs : Array Value} {e : TypeId} {k : Int} {n : Nat} (hn : l.length = n) (hcs : cs.toList = l.flatMap encR) (hm : n ≤ maxLen) (hl : ∀ t ∈ l, RTree w.heap.size w t) : RTree (w.alloc (.cells cs e)).heap.size (w.alloc (.cells cs e)) (.node k zeroT (some ⟨w.heap.size, 0, none⟩) n l) := by
  refine .mk ⟨Nat.zero_le _, rfl, rfl, Nat.zero_le _, Nat.zero_le _⟩ ?_ (fun a ha => ((hl a ha).keeps ((Below.refl _ _).alloc (Nat.le_refl _) _)).more (by simp))
  have := lit_rd (w := w) (e := e) hn hcs hm
  rw [show (w.alloc (.cells cs e)).heap.size = w.heap.size + 1 by simp]
  exact this
end
section
/- A rich dependency in a box of the call's own, through calls; what Show answers, what Parse refuses: plain facts. -/



open Go.RowKit Go.Shelf
set_option linter.unusedVariables false

structure BX (a : RV) (m : Nat) (W : World) : Prop where
  box : Box7 m (.int .u8 a.kind) (.string (bs a.dep.name)) (.int .u8 a.dep.op) (.int .i64 a.dep.evr.epoch) (.string (bs a.dep.evr.ver)) (.string (bs a.dep.evr.rel)) (.slice a.addr a.args.length a.cap) W
  tree : RTree W.heap.size W a
theorem BX.then {W W' : World} {a : RV} {m : Nat} (h : BX a m W) (hb : Below W.heap.size W W') : BX a m W' :=
  ⟨h.box.past (hb.mono h.box.2.2), (h.tree.keeps hb).more hb.size⟩
theorem BX.alloc {W : World} {a : RV} {m : Nat} (h : BX a m W) (o : Obj) : BX a m (W.alloc o) := h.then ((Below.refl _ _).alloc (Nat.le_refl _) o)
theorem BX.new {w : World} {a : RV} (ha : RTree w.heap.size w a) : BX a w.heap.size (w.alloc (.cells #[.int .u8 a.kind, .string (bs a.dep.name), .int .u8 a.dep.op, .int .i64 a.dep.evr.epoch, .string (bs a.dep.evr.ver), .string (bs a.dep.evr.rel), .slice a.addr a.args.length a.cap] 28)) :=
  ⟨Box7.new w _ _ _ _ _ _ _ _, (ha.keeps ((Below.refl _ _).alloc (Nat.le_refl _) _)).more (by simp)⟩
end
end Go.Proofs.YtcpjignlhlcnpaaDoor
