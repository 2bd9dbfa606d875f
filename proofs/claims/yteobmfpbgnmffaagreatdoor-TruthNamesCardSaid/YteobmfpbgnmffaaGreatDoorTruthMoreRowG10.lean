/- DepOfL, RichAtom, RichBetween, RichBracket, RichBrk, RichCatch, RichClone, RichMeasure, RlLaw0, RichWords, RichShow, RichAw0, RichBx, RichCopy -/
import Derived.Test.YteobmfpbgnmffaaGreatDoorTruthMoreRowG09
import Derived.Test.YteobmfpbgnmffaaGreatDoorTruthMoreRowG05
import Derived.Test.YteobmfpbgnmffaaGreatDoorTruthMoreRowG08
import Derived.Test.YteobmfpbgnmffaaGreatDoorTruthMoreRowG01
import Derived.Test.YteobmfpbgnmffaaGreatDoorTruthMoreRowG06
import Derived.Deep.RegionHeld3
import Derived.Deep.QuietTactic
import Derived.BigQuiet
import Derived.RangeFuncNested
import Derived.RangeFuncBound
import Derived.RangeFuncCalls
import Derived.RangeFuncLeaves
import Derived.RangeFuncBox
import Derived.Shelf.Abstract
import Derived.Shelf.RegionOpen
import Derived.OwnWalkIn
import Derived.TacticsInMore
import Derived.LoopNIn
import Derived.LoopIn
import Derived.Test.YteobmfpbgnmffaaGreatDoorShelf
import Derived.Shelf.Strings.BuilderX
import Derived.Lib.Builder
import Derived.Lib.AppendStr
import Derived.Lib.UnsafeStr
import Derived.Laws.Externs
import Derived.RegionTactic
import Derived.ChangeAlike
import Derived.Maps.AppendAt
import Derived.Deep.RegionLaw
import Derived.Defers
import Derived.Recover
set_option linter.unusedSimpArgs false
set_option linter.unusedVariables false
namespace Go.Proofs.YteobmfpbgnmffaaGreatDoor
section
/- Walks: the dependency of words. -/



open Go.RowKit Go.Shelf
set_option linter.unusedVariables false

def ZV : Value := .tuple #[.agg #[.string ⟨#[]⟩, .int .u8 0, .int .i64 0, .string ⟨#[]⟩, .string ⟨#[]⟩], .int .i64 4]
end
section
/- Walks: a plain dependency is read out of words (rich.reader's plain). -/





open Go.RowKit Go.Shelf
set_option linter.unusedVariables false

theorem Box7.past {m : Nat} {a0 a1 a2 a3 a4 a5 a6 : Value} {W W' : World} (h : Box7 m a0 a1 a2 a3 a4 a5 a6 W) (hb : Below (m + 1) W W') : Box7 m a0 a1 a2 a3 a4 a5 a6 W' := by
  obtain ⟨⟨h0, h1, h2, h3, h4, h5, h6⟩, ⟨f0, f1, f2, f3, f4, f5, f6⟩, hl⟩ := h
  have hc : ∀ i, W'.cell? ⟨m, i, none⟩ = W.cell? ⟨m, i, none⟩ := fun i => hb.cell (p := ⟨m, i, none⟩) (Nat.lt_succ_self m)
  have hf : ∀ i, W'.frozen? ⟨m, i, none⟩ = W.frozen? ⟨m, i, none⟩ := fun i => hb.frozen (p := ⟨m, i, none⟩) (Nat.lt_succ_self m)
  exact ⟨⟨(hc 0).trans h0, (hc 1).trans h1, (hc 2).trans h2, (hc 3).trans h3, (hc 4).trans h4, (hc 5).trans h5, (hc 6).trans h6⟩, ⟨(hf 0).trans f0, (hf 1).trans f1, (hf 2).trans f2, (hf 3).trans f3, (hf 4).trans f4, (hf 5).trans f5, (hf 6).trans f6⟩, Nat.lt_of_lt_of_le hl hb.size⟩
end
section
/- Walks: the word ahead of a part (rich.between). -/


open Go.RowKit Go.Shelf
set_option linter.unusedVariables false

theorem kind_word {k : Nat} (h2 : 2 ≤ k) (h7 : k < 8) : (kindL[k]'h7).1 = kwd (k : Int) ∧ (kindL[k]'h7).2 = mostK (k : Int) := by
  obtain rfl | rfl | rfl | rfl | rfl | rfl : k = 2 ∨ k = 3 ∨ k = 4 ∨ k = 5 ∨ k = 6 ∨ k = 7 := by omega
  all_goals exact ⟨rfl, rfl⟩
theorem KindsIn.at_ {w : World} (h : KindsIn w) {k : Nat} (h2 : 2 ≤ k) (h7 : k < 8) : w.cell? ⟨0, k * 2, none⟩ = some (.string (bs (kwd (k : Int)))) ∧ w.cell? ⟨0, k * 2 + 1, none⟩ = some (.int .i64 (mostK (k : Int) : Int)) := by
  have := h.2 k h7
  rw [(kind_word h2 h7).1, (kind_word h2 h7).2] at this
  exact this
end
section
/- Walks: all that is no plain dependency is read (rich.reader's bracket). -/




open Go.RowKit Go.Shelf
set_option linter.unusedVariables false

theorem encR_len (t : RV) : (encR t).length = 7 := rfl
theorem encR_one (t : RV) : ∀ u ∈ encR t, u.oneCell' = true := by
  intro u hu
  simp only [encR, List.mem_cons, List.not_mem_nil, or_false] at hu
  rcases hu with rfl | rfl | rfl | rfl | rfl | rfl | rfl <;> rfl
def zBox (m : Nat) (W : World) : Prop := Box7 m (.int .u8 0) (.string ⟨#[]⟩) (.int .u8 0) (.int .i64 0) (.string ⟨#[]⟩) (.string ⟨#[]⟩) (.slice none 0 0) W
section
variable {w0 W wr w' : World} {R e o m m2 n n' : Nat} {k k' : Int} {l : List RV} {v : Value} {ws ws' : List Tok}
theorem box7_set6 {a0 a1 a2 a3 a4 a5 a6 : Value} (h : Box7 m a0 a1 a2 a3 a4 a5 a6 W) (u : Value) : Box7 m a0 a1 a2 a3 a4 a5 u (W.setCell ⟨m, 6, none⟩ u) := by
  obtain ⟨⟨h0, h1, h2, h3, h4, h5, h6⟩, ⟨f0, f1, f2, f3, f4, f5, f6⟩, hl⟩ := h
  unfold Box7
  refine ⟨⟨?_, ?_, ?_, ?_, ?_, ?_, ?_⟩, ⟨?_, ?_, ?_, ?_, ?_, ?_, ?_⟩, by simpa [World.setCell] using hl⟩
  all_goals simp [go_sem, h0, h1, h2, h3, h4, h5, h6, f0, f1, f2, f3, f4, f5, f6]
end
end
section
/- Walks: all that is no plain dependency is read (rich.reader's bracket): the walk. -/




open Go.RowKit Go.Shelf
set_option linter.unusedVariables false

theorem rd_lit (w : World) (t : RV) : Rd encR 7 (w.heap.size + 1) (some ⟨w.heap.size, 0, none⟩) 1 [t] (w.alloc (.cells #[.int .u8 t.kind, .string (bs t.dep.name), .int .u8 t.dep.op, .int .i64 t.dep.evr.epoch, .string (bs t.dep.evr.ver), .string (bs t.dep.evr.rel), .slice t.addr t.args.length t.cap] 39)) := by
  refine ⟨Nat.le_refl _, by decide, fun k hk => ⟨w.heap.size, 0, rfl, Nat.lt_succ_self _, fun j u hu => ?_⟩⟩
  have hk0 : k = 0 := by simp at hk; omega
  subst hk0
  rw [Nat.zero_mul, Nat.add_zero, Nat.zero_add]
  refine (World.cell?_alloc_at _ _ _ _ rfl).trans ?_
  rw [← Array.getElem?_toList]
  exact hu
end
section
/- Walks: the closure that rich.Parse defers: it recovers what a part was refused with. -/






open Go.RowKit Go.Shelf
set_option linter.unusedVariables false

theorem tm3 (a b c : Value) : #[a, b, c] ++ Array.replicate 19 undef = #[a, b, c, undef, undef, undef, undef, undef, undef, undef, undef, undef, undef, undef, undef, undef, undef, undef, undef, undef, undef, undef] := by
  apply Array.ext'
  rw [Array.toList_append, Array.toList_replicate]
  rfl
end
section
/- Walks: slices.Clone of the words of a text. -/



open Go.RowKit Go.Shelf
set_option linter.unusedVariables false

section
variable {P : Program} {α : Type} {enc : α → List Value} (w : World)
theorem wpList_append_rd {ops : Array Oper} {rest : List Oper} {o : Oper} {a : Act} {Q : Exit → Act → World → Prop} (hgd : o.guard = none) (s x : Operand) (t : TypeId)
    (ho : o.op = .call { callee := .builtin .append, args := #[s, x], argTypes := #[t, t] })
    (base : Nat) (e : TypeId) (i : TypeInfo) (z : Value) (size bytes : Nat) (ht : P.underlying t = some (.slice e)) (hi : P.info? e = some i) (hz : i.zero = some z) (hsize : i.size = size) (hby : i.bytes = bytes) (hzc : z.cells.size = size) (hs0 : 0 < size)
    (he : ∀ x, (enc x).length = size) (h1 : ∀ x, ∀ u ∈ enc x, u.oneCell' = true)
    (v : Value) (n : Nat) (xs : List Value) (hs : a.eval s = v) (hown : w.ownsRow base e size v n xs) (B : Nat) (A : Option Addr) (c : Nat) (D : List α) (m : Nat) (hm : m = D.length) (hx : a.eval x = .slice A m c) (hT : Rd enc size B A c D w) (hn : n + D.length ≤ 1000000) (hbytes : bytes ≤ 1000) (hbase : base ≤ w.heap.size)
    (h : ∀ v' w', w'.ownsRow base e size v' (n + D.length) (xs ++ D.flatMap enc) → w.grownBy w' v.ownBlock → (v'.ownBlock = v.ownBlock ∨ v'.ownBlock = some w.heap.size) → wpList P ops Q rest (a.put o.dst v') w') :
    wpList P ops Q (o :: rest) a w := by
  subst hm
  refine wpList_plain hgd fun _ hK => ?_
  obtain ⟨v', w', hrun, r1, r2, r3⟩ := run_append_rd (P := P) w base t o.type e i z size bytes ht hi hz hsize hby hzc hs0 he h1 v n xs hown B A c D hT hn hbytes hbase
  unfold Oper.wp
  simp [execOp, ho, resolve, invoke, builtin, hs, hx, hrun, Result.andThen]
  exact hK _ _ (h v' w' r1 r2 r3)
end
end
section
/- Walks: of how many parts a rich dependency is, how deep, and whether each has what it should (rich.measure); is it whole (rich.Whole). -/




open Go.RowKit Go.Shelf
set_option linter.unusedVariables false

theorem partsL_take {l : List RT} {k : Nat} (hk : k < l.length) : partsL (l.take (k + 1)) = partsL (l.take k) + l[k].parts := by rw [take_snoc l k hk, partsL_app]; simp [partsL]
theorem deepL_take {l : List RT} {k : Nat} (hk : k < l.length) : deepL (l.take (k + 1)) = max (deepL (l.take k)) l[k].deep := by rw [take_snoc l k hk, deepL_app]; simp [deepL]
theorem okL_take {l : List RT} {k : Nat} (hk : k < l.length) : okL (l.take (k + 1)) = (okL (l.take k) && l[k].okB) := by rw [take_snoc l k hk, okL_app]; simp [okL]
theorem partsL_mono : ∀ (l : List RT) (k : Nat), partsL (l.take k) ≤ partsL l
  | [], k => by simp [partsL]
  | a :: l, 0 => by simp [partsL]
  | a :: l, k + 1 => by have := partsL_mono l k; simp only [List.take_succ_cons, partsL]; omega
theorem deep_parts : ∀ t : RT, t.deep ≤ t.parts
  | .mk k d l => by
    simp only [RT.deep, RT.parts]
    split
    · omega
    · have := deepL_parts l; omega
where
  deepL_parts : ∀ l : List RT, deepL l ≤ partsL l
    | [] => by simp [deepL]
    | a :: l => by have := deep_parts a; have := deepL_parts l; simp only [deepL, partsL]; omega
/-- what measure hands back -/
def MeasPost (t : RT) (w : World) (e : Ending) (w' : World) : Prop :=
  ∃ p d : Nat, e = .returned (.tuple #[.int .i64 (p : Int), .int .i64 (d : Int), .bool t.okB]) ∧ p ≤ t.parts ∧ d ≤ t.parts ∧ (t.okB = true → p = t.parts ∧ d = t.deep) ∧ Below w.heap.size w w'
end
section
/- Walks: what the statements of lex ask first: are these a text's words; are the examples as they are told; is it too long. -/




open Go.RowKit Go.Shelf

theorem Rd.of_block {α : Type} {enc : α → List Value} {size cap g : Nat} {l : List α} {w : World} {cs : Array Value} {t : TypeId} {fz : Nat × Nat} (he : ∀ x, (enc x).length = size)
    (h : w.heap[g]? = some (.cells cs t fz)) (hcs : cs.toList = l.flatMap enc) (hc : l.length ≤ cap) (hm : cap ≤ maxLen) : Rd enc size w.heap.size (some ⟨g, 0, none⟩) cap l w := by
  refine ⟨hc, hm, fun k hk => ⟨g, 0, rfl, (Array.getElem?_eq_some_iff.1 h).1, fun j u hu => ?_⟩⟩
  have hj : j < size := by have := (List.getElem?_eq_some_iff.1 hu).1; rw [he] at this; exact this
  rw [cell_of_row w g _ cs t fz h, ← Array.getElem?_toList, hcs, Nat.zero_add, flatMap_at enc size he l k hk j hj]
  exact hu
end
section
/- Walks: the words of a rich dependency that is whole (rich.words). -/






open Go.RowKit Go.Shelf
set_option linter.unusedVariables false

theorem partsL_get : ∀ {l : List RT} {i : Nat} (h : i < l.length), l[i].parts ≤ partsL l
  | a :: l, 0, h => by simp [partsL]
  | a :: l, i + 1, h => by have := partsL_get (l := l) (i := i) (by simpa using h); simp only [List.getElem_cons_succ, partsL]; omega
end
section
/- Walks: is a rich dependency whole, its words, its text (rich.Whole, Words, Show). -/




open Go.RowKit Go.Shelf
set_option linter.unusedVariables false

theorem whole_ok {t : RT} (h : t.whole = true) : t.okB = true := by unfold RT.whole at h; simp only [Bool.and_eq_true] at h; exact h.1
end
section
/- Rich dependencies in plain terms: the examples; trees that the call itself lays. -/




open Go.RowKit
set_option linter.unusedVariables false

def atomT (x : Bytes) : RT := .mk 1 ⟨x, 0, zeroE⟩ []
theorem atom_wf (x : Bytes) (h : x.length ≤ maxLen) : Dp.wf ⟨x, 0, zeroE⟩ := ⟨h, rfl, rfl, Nat.zero_le _, Nat.zero_le _⟩
def atomR (x : Bytes) : RV := .node 1 ⟨x, 0, zeroE⟩ none 0 []
theorem atomR_tree (x : Bytes) : (atomR x).tree = atomT x := rfl
theorem atomR_rtree (B : Nat) (W : World) (x : Bytes) (h : x.length ≤ maxLen) : RTree B W (atomR x) := .mk (atom_wf x h) (Rd.nil_ (Nat.zero_le _)) (fun a ha => by simp [atomR, RV.args] at ha)
/-- a row that the call itself lays -/
theorem lit_rd {w : World} {l : List RV} {cs : Array Value} {e : TypeId} {n : Nat} (hn : l.length = n) (hcs : cs.toList = l.flatMap encR) (hm : n ≤ maxLen) : Rd encR 7 (w.heap.size + 1) (some ⟨w.heap.size, 0, none⟩) n l (w.alloc (.cells cs e)) := by
  subst hn
  have := Rd.of_block (enc := encR) (size := 7) (cap := l.length) (g := w.heap.size) (l := l) (w := w.alloc (.cells cs e)) (cs := cs) (t := e) (fz := (0, 0)) (fun _ => rfl) (World.alloc_heap_new w _) hcs (Nat.le_refl _) hm
  simpa using this
theorem lit_tree {w : World} {l : List RV} {cs : Array Value} {e : TypeId} {k : Int} {n : Nat} (hn : l.length = n) (hcs : cs.toList = l.flatMap encR) (hm : n ≤ maxLen) (hl : ∀ t ∈ l, RTree w.heap.size w t) : RTree (w.alloc (.cells cs e)).heap.size (w.alloc (.cells cs e)) (.node k zeroT (some ⟨w.heap.size, 0, none⟩) n l) := by
  refine .mk ⟨Nat.zero_le _, rfl, rfl, Nat.zero_le _, Nat.zero_le _⟩ ?_ (fun a ha => ((hl a ha).keeps ((Below.refl _ _).alloc (Nat.le_refl _) _)).more (by simp))
  have := lit_rd (w := w) (e := e) hn hcs hm
  rw [show (w.alloc (.cells cs e)).heap.size = w.heap.size + 1 by simp]
  exact this
end
section
/- A rich dependency in a box of the call's own, through calls; what Show answers, what Parse refuses: plain facts. -/



open Go.RowKit Go.Shelf
set_option linter.unusedVariables false

structure BX (a : RV) (m : Nat) (W : World) : Prop where
  box : Box7 m (.int .u8 a.kind) (.string (bs a.dep.name)) (.int .u8 a.dep.op) (.int .i64 a.dep.evr.epoch) (.string (bs a.dep.evr.ver)) (.string (bs a.dep.evr.rel)) (.slice a.addr a.args.length a.cap) W
  tree : RTree W.heap.size W a
theorem BX.then {W W' : World} {a : RV} {m : Nat} (h : BX a m W) (hb : Below W.heap.size W W') : BX a m W' :=
  ⟨h.box.past (hb.mono h.box.2.2), (h.tree.keeps hb).more hb.size⟩
theorem BX.alloc {W : World} {a : RV} {m : Nat} (h : BX a m W) (o : Obj) : BX a m (W.alloc o) := h.then ((Below.refl _ _).alloc (Nat.le_refl _) o)
theorem BX.new {w : World} {a : RV} (ha : RTree w.heap.size w a) : BX a w.heap.size (w.alloc (.cells #[.int .u8 a.kind, .string (bs a.dep.name), .int .u8 a.dep.op, .int .i64 a.dep.evr.epoch, .string (bs a.dep.evr.ver), .string (bs a.dep.evr.rel), .slice a.addr a.args.length a.cap] 39)) :=
  ⟨Box7.new w _ _ _ _ _ _ _ _, (ha.keeps ((Below.refl _ _).alloc (Nat.le_refl _) _)).more (by simp)⟩
end
section
/- Walk: a rich dependency in new memory (chandleryref08.Copy). -/




open Go.RowKit Go.Shelf
set_option linter.unusedVariables false

/-- where Copy stands: what was copied so far -/
structure Cp (w : World) (t : RV) (l : List RV) (v : Value) (wr : World) : Prop where
  old : Below w.heap.size w wr
  inp : Box7 w.heap.size (.int .u8 t.kind) (.string (bs t.dep.name)) (.int .u8 t.dep.op) (.int .i64 t.dep.evr.epoch) (.string (bs t.dep.evr.ver)) (.string (bs t.dep.evr.rel)) (.slice t.addr t.args.length t.cap) wr
  res : zBox (w.heap.size + 1) wr
  out : Box7 (w.heap.size + 2) (.int .u8 t.kind) (.string (bs t.dep.name)) (.int .u8 t.dep.op) (.int .i64 t.dep.evr.epoch) (.string (bs t.dep.evr.ver)) (.string (bs t.dep.evr.rel)) v wr
  own : Own encR 7 (w.heap.size + 3) 39 v l wr
  tr : ∀ a ∈ l, TQ (fun b => w.heap.size + 3 ≤ b ∧ b < wr.heap.size ∧ v.ownBlock ≠ some b) wr a
section
variable {w wr w' : World} {t : RV} {l : List RV} {v : Value}
theorem Cp.call (h : Cp w t l v wr) (hb : Below wr.heap.size wr w') : Cp w t l v w' where
  old := h.old.trans (hb.mono h.old.size)
  inp := h.inp.past (hb.mono h.inp.2.2)
  res := h.res.past (hb.mono h.res.2.2)
  out := h.out.past (hb.mono h.out.2.2)
  own := by
    have ho := h.own
    unfold Own at *
    refine ⟨ho.1, ?_⟩
    rcases ho.2 with h2 | ⟨g, cap, cur, hv, hg, hh, r⟩
    · exact .inl h2
    · have hl : g < wr.heap.size := (Array.getElem?_eq_some_iff.1 hh).1
      exact .inr ⟨g, cap, cur, hv, hg, by rw [hb.block g hl]; exact hh, r⟩
  tr := fun a ha => (h.tr a ha).keep (fun b hq => ⟨hq.1, Nat.lt_of_lt_of_le hq.2.1 hb.size, hq.2.2⟩) fun b hq => hb.block b hq.2.1
theorem Cp.held {w6 : World} {cs : Obj} (h : Cp w t l v wr) (hg : (wr.alloc cs).grownBy w6 v.ownBlock) : w6.cell? ⟨w.heap.size + 2, 6, none⟩ = some v ∧ w6.frozen? ⟨w.heap.size + 2, 6, none⟩ = false ∧ w.heap.size + 2 < w6.heap.size := by
  have hm2 := h.out.2.2
  have hb : w6.heap[w.heap.size + 2]? = wr.heap[w.heap.size + 2]? := (hg.block (w.heap.size + 2) (by simp; omega) (fun e => by have := (World.ownsRow.lt h.own _ e.symm).1; omega)).trans (Below.heap_alloc _ _ _ hm2)
  have hz := hg.size
  refine ⟨(World.cell?_of_block (w := wr) (a := ⟨w.heap.size + 2, 6, none⟩) hb).trans h.out.1.2.2.2.2.2.2, (World.frozen?_of_block (w := wr) (a := ⟨w.heap.size + 2, 6, none⟩) hb).trans h.out.2.1.2.2.2.2.2.2, by simp at hz; omega⟩
/-- a copy more -/
theorem Cp.arg {rv : RV} {w6 : World} {v' : Value} {cs : Obj} (h : Cp w t l v wr) (hT : TQ (fun b => w'.heap.size ≤ b ∧ b < wr.heap.size) wr rv) (hw : w.heap.size + 3 ≤ w'.heap.size) (hv : ∀ b, v.ownBlock = some b → b < w'.heap.size)
    (ho : w6.ownsRow (w.heap.size + 3) 39 7 v' (l.length + 1) (l.flatMap encR ++ encR rv)) (hg : (wr.alloc cs).grownBy w6 v.ownBlock) (hv' : v'.ownBlock = v.ownBlock ∨ v'.ownBlock = some (wr.alloc cs).heap.size) : Cp w t (l ++ [rv]) v' (w6.setCell ⟨w.heap.size + 2, 6, none⟩ v') := by
  have hm2 := h.out.2.2
  have hsz : wr.heap.size + 1 = (wr.alloc cs).heap.size := by simp
  have hr : ∀ q, v.ownBlock = some q → w.heap.size + 3 ≤ q := fun q e => (World.ownsRow.lt h.own q e).1
  have hG : ∀ {B : Nat}, B ≤ w.heap.size + 3 → Below B (wr.alloc cs) w6 := fun hB => (Below.refl _ _).grown hg (by omega) (fun k e => Nat.le_trans hB (hr k e))
  have hA : ∀ {B : Nat}, B ≤ w.heap.size + 3 → Below B wr w6 := fun hB => ((Below.refl _ _).alloc (by omega) cs).trans (hG hB)
  have hblk : ∀ b, b < wr.heap.size → v.ownBlock ≠ some b → w6.heap[b]? = wr.heap[b]? := fun b hb hne => (hg.block b (by omega) (fun e => hne e.symm)).trans (Below.heap_alloc _ _ _ hb)
  have hset : ∀ b, b ≠ w.heap.size + 2 → (w6.setCell ⟨w.heap.size + 2, 6, none⟩ v').heap[b]? = w6.heap[b]? := fun b hb => Below.heap_setCell _ _ _ _ hb
  have hzs : (w6.setCell ⟨w.heap.size + 2, 6, none⟩ v').heap.size = w6.heap.size := by simp [World.setCell]
  have hz6 := hg.size
  have hz0 := h.old.size
  have hS : ∀ {B : Nat}, B ≤ w.heap.size + 2 → Below B wr (w6.setCell ⟨w.heap.size + 2, 6, none⟩ v') := fun hB => (hA (by omega)).setCell (p := ⟨w.heap.size + 2, 6, none⟩) hB v'
  have hQ : ∀ b, b < wr.heap.size → v.ownBlock ≠ some b → v'.ownBlock ≠ some b := fun b hb hne => by
    rcases hv' with e | e
    · rw [e]; exact hne
    · rw [e]; simp; omega
  have haway : v'.ownBlock ≠ some (w.heap.size + 2) := hQ _ hm2 (fun e => by have := hr _ e; omega)
  refine ⟨h.old.trans (hS (by omega)), h.inp.past (hS (by omega)), h.res.past (hS (by omega)), box7_set6 (h.out.past (hA (by omega))) v', ownsRow_setCell_other (Own.snoc ho) (a := ⟨w.heap.size + 2, 6, none⟩) haway v', ?_⟩
  intro a ha
  rcases List.mem_append.1 ha with ha | ha
  · exact (h.tr a ha).keep (fun b hq => ⟨hq.1, by omega, hQ b hq.2.1 hq.2.2⟩) fun b hq => (hset b (by omega)).trans (hblk b hq.2.1 hq.2.2)
  · simp at ha; subst ha
    exact hT.keep (fun b hq => ⟨by omega, by omega, hQ b hq.2 (fun e => by have := hv b e; omega)⟩) fun b hq => (hset b (by omega)).trans (hblk b hq.2 (fun e => by have := hv b e; omega))
end
/-- what Copy leaves: a tree alike, its row the call's own, and nothing of what is below in that row's block -/
def CopyPost (t : RV) (w : World) (e : Ending) (w' : World) : Prop :=
  ∃ (A : Option Addr) (c : Nat) (l : List RV), e = .returned (RV.node t.kind t.dep A c l).val ∧ treeL l = treeL t.args ∧ Own encR 7 w.heap.size 39 (.slice A l.length c) l w' ∧
    (∀ a ∈ l, TQ (fun b => w.heap.size ≤ b ∧ b < w'.heap.size ∧ (Value.slice A l.length c).ownBlock ≠ some b) w' a) ∧ Below w.heap.size w w'
theorem own_keep {α : Type} {enc : α → List Value} {size base base' : Nat} {e : TypeId} {v : Value} {l : List α} {w w' : World} (h : Own enc size base e v l w) (hb : base' ≤ base) (hk : ∀ g, v.ownBlock = some g → w'.heap[g]? = w.heap[g]?) : Own enc size base' e v l w' := by
  unfold Own at *
  refine ⟨h.1, ?_⟩
  rcases h.2 with h2 | ⟨g, cap, cur, hv, hg, hh, r⟩
  · exact .inl h2
  · exact .inr ⟨g, cap, cur, hv, by omega, by rw [hk g (by rw [hv]; rfl)]; exact hh, r⟩
theorem CopyPost.tq {t : RV} {w w' : World} {e : Ending} (hd : t.dep.wf) (h : CopyPost t w e w') : ∃ rv : RV, e = .returned rv.val ∧ rv.tree = t.tree ∧ TQ (fun b => w.heap.size ≤ b ∧ b < w'.heap.size) w' rv ∧ Below w.heap.size w w' := by
  obtain ⟨A, c, l, he, ht, ho, hs, hb⟩ := h
  refine ⟨_, he, by rw [tree_parts t]; simp only [RV.tree]; rw [ht], ?_, hb⟩
  obtain ⟨A', c', hv, hr⟩ := ho.rd encR_len
  cases hv
  refine .mk hd hr.1 hr.2.1 (fun k hk => ?_) fun a ha => (hs a ha).keep (fun b hq => ⟨hq.1, hq.2.1⟩) fun _ _ => rfl
  obtain ⟨b, off, e', hlt, hc⟩ := hr.2.2 k hk
  have e2 : A = some ⟨b, off, none⟩ := e'
  exact ⟨b, off, e', ⟨(World.ownsRow.lt ho b (by rw [e2]; rfl)).1, hlt⟩, hc⟩
theorem Cp.start {w : World} {t : RV} : Cp w t [] (.slice none 0 0) (((w.alloc (.cells #[.int .u8 t.kind, .string (bs t.dep.name), .int .u8 t.dep.op, .int .i64 t.dep.evr.epoch, .string (bs t.dep.evr.ver), .string (bs t.dep.evr.rel), .slice t.addr t.args.length t.cap] 39)).alloc (.cells #[.int .u8 0, .string ⟨#[]⟩, .int .u8 0, .int .i64 0, .string ⟨#[]⟩, .string ⟨#[]⟩, .slice none 0 0] 39)).alloc (.cells #[.int .u8 t.kind, .string (bs t.dep.name), .int .u8 t.dep.op, .int .i64 t.dep.evr.epoch, .string (bs t.dep.evr.ver), .string (bs t.dep.evr.rel), .slice none 0 0] 39)) := by
  generalize hO1 : (.cells #[.int .u8 t.kind, .string (bs t.dep.name), .int .u8 t.dep.op, .int .i64 t.dep.evr.epoch, .string (bs t.dep.evr.ver), .string (bs t.dep.evr.rel), .slice t.addr t.args.length t.cap] 39 : Obj) = o1
  generalize hO2 : (.cells #[.int .u8 0, .string ⟨#[]⟩, .int .u8 0, .int .i64 0, .string ⟨#[]⟩, .string ⟨#[]⟩, .slice none 0 0] 39 : Obj) = o2
  generalize hO3 : (.cells #[.int .u8 t.kind, .string (bs t.dep.name), .int .u8 t.dep.op, .int .i64 t.dep.evr.epoch, .string (bs t.dep.evr.ver), .string (bs t.dep.evr.rel), .slice none 0 0] 39 : Obj) = o3
  have z1 : (w.alloc o1).heap.size = w.heap.size + 1 := by simp
  have z2 : ((w.alloc o1).alloc o2).heap.size = w.heap.size + 2 := by simp
  have b1 : ∀ {B : Nat}, B ≤ w.heap.size → Below B w (w.alloc o1) := fun hB => (Below.refl _ _).alloc hB _
  have b2 : ∀ {B : Nat}, B ≤ w.heap.size + 1 → Below B (w.alloc o1) ((w.alloc o1).alloc o2) := fun hB => (Below.refl _ _).alloc (by omega) _
  have b3 : ∀ {B : Nat}, B ≤ w.heap.size + 2 → Below B ((w.alloc o1).alloc o2) (((w.alloc o1).alloc o2).alloc o3) := fun hB => (Below.refl _ _).alloc (by omega) _
  refine ⟨(b1 (Nat.le_refl _)).trans ((b2 (by omega)).trans (b3 (by omega))), ?_, ?_, ?_, Own.nil_ _ _ _, fun a ha => by simp at ha⟩
  · have h := Box7.new w (.int .u8 t.kind) (.string (bs t.dep.name)) (.int .u8 t.dep.op) (.int .i64 t.dep.evr.epoch) (.string (bs t.dep.evr.ver)) (.string (bs t.dep.evr.rel)) (.slice t.addr t.args.length t.cap) 39
    rw [hO1] at h
    exact (h.past (b2 (by omega))).past (b3 (by omega))
  · have h := Box7.new (w.alloc o1) (.int .u8 0) (.string ⟨#[]⟩) (.int .u8 0) (.int .i64 0) (.string ⟨#[]⟩) (.string ⟨#[]⟩) (.slice none 0 0) 39
    rw [hO2, z1] at h
    exact h.past (b3 (by omega))
  · have h := Box7.new ((w.alloc o1).alloc o2) (.int .u8 t.kind) (.string (bs t.dep.name)) (.int .u8 t.dep.op) (.int .i64 t.dep.evr.epoch) (.string (bs t.dep.evr.ver)) (.string (bs t.dep.evr.rel)) (.slice none 0 0) 39
    rw [hO3, z2] at h
    exact h
end
end Go.Proofs.YteobmfpbgnmffaaGreatDoor
