/- RichBrk, RichCatch, RichClone, RichParse, RichMeasure, RlRef, RlLaw0, RichWords, RichShow, RichBx -/
import Derived.Test.YtibeipmcggbbgaaGreatDoorStepsThereRowG10
import Derived.Test.YtibeipmcggbbgaaGreatDoorStepsThereRowG09
import Derived.Test.YtibeipmcggbbgaaGreatDoorStepsThereRowG06
import Derived.Test.YtibeipmcggbbgaaGreatDoorStepsThereRowG08
import Derived.Test.YtibeipmcggbbgaaGreatDoorStepsThereRowG05
import Derived.Deep.RegionLaw
import Derived.Deep.RegionHeld3
import Derived.Deep.QuietTactic
import Derived.BigQuiet
import Derived.Defers
import Derived.Recover
import Derived.RegionTactic
import Derived.ChangeAlike
import Derived.Maps.AppendAt
set_option linter.unusedSimpArgs false
set_option linter.unusedVariables false
namespace Go.Proofs.YtibeipmcggbbgaaGreatDoor
section
/- Walks: all that is no plain dependency is read (rich.reader's bracket): the walk. -/




open Go.RowKit Go.Shelf
set_option linter.unusedVariables false

def lenOf : Option Value → Nat | some (.slice _ n _) => n | _ => 0
theorem rd_lit (w : World) (t : RV) : Rd encR 7 (w.heap.size + 1) (some ⟨w.heap.size, 0, none⟩) 1 [t] (w.alloc (.cells #[.int .u8 t.kind, .string (bs t.dep.name), .int .u8 t.dep.op, .int .i64 t.dep.evr.epoch, .string (bs t.dep.evr.ver), .string (bs t.dep.evr.rel), .slice t.addr t.args.length t.cap] 39)) := by
  refine ⟨Nat.le_refl _, by decide, fun k hk => ⟨w.heap.size, 0, rfl, Nat.lt_succ_self _, fun j u hu => ?_⟩⟩
  have hk0 : k = 0 := by simp at hk; omega
  subst hk0
  rw [Nat.zero_mul, Nat.add_zero, Nat.zero_add]
  refine (World.cell?_alloc_at _ _ _ _ rfl).trans ?_
  rw [← Array.getElem?_toList]
  exact hu
end
section
/- Walks: the closure that rich.Parse defers: it recovers what a part was refused with. -/






open Go.RowKit Go.Shelf
set_option linter.unusedVariables false

theorem tm3 (a b c : Value) : #[a, b, c] ++ Array.replicate 19 undef = #[a, b, c, undef, undef, undef, undef, undef, undef, undef, undef, undef, undef, undef, undef, undef, undef, undef, undef, undef, undef, undef] := by
  apply Array.ext'
  rw [Array.toList_append, Array.toList_replicate]
  rfl
end
section
/- Walks: slices.Clone of the words of a text. -/



open Go.RowKit Go.Shelf
set_option linter.unusedVariables false

section
variable {P : Program} {α : Type} {enc : α → List Value} (w : World)
theorem wpList_append_rd {ops : Array Oper} {rest : List Oper} {o : Oper} {a : Act} {Q : Exit → Act → World → Prop} (hgd : o.guard = none) (s x : Operand) (t : TypeId)
    (ho : o.op = .call { callee := .builtin .append, args := #[s, x], argTypes := #[t, t] })
    (base : Nat) (e : TypeId) (i : TypeInfo) (z : Value) (size bytes : Nat) (ht : P.underlying t = some (.slice e)) (hi : P.info? e = some i) (hz : i.zero = some z) (hsize : i.size = size) (hby : i.bytes = bytes) (hzc : z.cells.size = size) (hs0 : 0 < size)
    (he : ∀ x, (enc x).length = size) (h1 : ∀ x, ∀ u ∈ enc x, u.oneCell' = true)
    (v : Value) (n : Nat) (xs : List Value) (hs : a.eval s = v) (hown : w.ownsRow base e size v n xs) (B : Nat) (A : Option Addr) (c : Nat) (D : List α) (m : Nat) (hm : m = D.length) (hx : a.eval x = .slice A m c) (hT : Rd enc size B A c D w) (hn : n + D.length ≤ 1000000) (hbytes : bytes ≤ 1000) (hbase : base ≤ w.heap.size)
    (h : ∀ v' w', w'.ownsRow base e size v' (n + D.length) (xs ++ D.flatMap enc) → w.grownBy w' v.ownBlock → (v'.ownBlock = v.ownBlock ∨ v'.ownBlock = some w.heap.size) → wpList P ops Q rest (a.put o.dst v') w') :
    wpList P ops Q (o :: rest) a w := by
  subst hm
  refine wpList_plain hgd fun _ hK => ?_
  obtain ⟨v', w', hrun, r1, r2, r3⟩ := run_append_rd (P := P) w base t o.type e i z size bytes ht hi hz hsize hby hzc hs0 he h1 v n xs hown B A c D hT hn hbytes hbase
  unfold Oper.wp
  simp [execOp, ho, resolve, invoke, builtin, hs, hx, hrun, Result.andThen]
  exact hK _ _ (h v' w' r1 r2 r3)
end
end
section
/- Walks: the rich dependency of a text (rich.Parse). -/





open Go.RowKit Go.Shelf
set_option linter.unusedVariables false

/-- the three results, which the closure may write -/
structure Res (m : Nat) (a0 a1 a2 a3 a4 a5 a6 v3 v4 : Value) (W : World) : Prop where
  box : Box7 m a0 a1 a2 a3 a4 a5 a6 W
  c3 : W.cell? ⟨m + 1, 0, none⟩ = some v3
  c4 : W.cell? ⟨m + 1 + 1, 0, none⟩ = some v4
  f3 : W.frozen? ⟨m + 1, 0, none⟩ = false
  f4 : W.frozen? ⟨m + 1 + 1, 0, none⟩ = false
  lt : m + 2 < W.heap.size
section
variable {m : Nat} {a0 a1 a2 a3 a4 a5 a6 v3 v4 : Value} {W W' : World}
theorem Res.past (h : Res m a0 a1 a2 a3 a4 a5 a6 v3 v4 W) (hb : Below (m + 3) W W') : Res m a0 a1 a2 a3 a4 a5 a6 v3 v4 W' where
  box := h.box.past (hb.mono (by omega))
  c3 := (hb.cell (p := ⟨m + 1, 0, none⟩) (by show m + 1 < m + 3; omega)).trans h.c3
  c4 := (hb.cell (p := ⟨m + 1 + 1, 0, none⟩) (by show m + 2 < m + 3; omega)).trans h.c4
  f3 := (hb.frozen (p := ⟨m + 1, 0, none⟩) (by show m + 1 < m + 3; omega)).trans h.f3
  f4 := (hb.frozen (p := ⟨m + 1 + 1, 0, none⟩) (by show m + 2 < m + 3; omega)).trans h.f4
  lt := Nat.lt_of_lt_of_le h.lt hb.size
theorem Res.then (h : Res m a0 a1 a2 a3 a4 a5 a6 v3 v4 W) (hb : Below W.heap.size W W') : Res m a0 a1 a2 a3 a4 a5 a6 v3 v4 W' := h.past (hb.mono h.lt)
theorem Res.butR {R : Nat} (h : Res m a0 a1 a2 a3 a4 a5 a6 v3 v4 W) (hb : ButR R W W') (hR : m + 3 ≤ R) (hl : R < W.heap.size) : Res m a0 a1 a2 a3 a4 a5 a6 v3 v4 W' := h.past (hb.below hR hl)
theorem Res.new (w : World) (e3 e4 : TypeId) (v3 v4 : Value) (e : TypeId) : Res w.heap.size a0 a1 a2 a3 a4 a5 a6 v3 v4 (((w.alloc (.cells #[a0, a1, a2, a3, a4, a5, a6] e)).alloc (.cells #[v3] e3)).alloc (.cells #[v4] e4)) := by
  have z1 : (w.alloc (.cells #[a0, a1, a2, a3, a4, a5, a6] e)).heap.size = w.heap.size + 1 := by simp
  have z2 : ((w.alloc (.cells #[a0, a1, a2, a3, a4, a5, a6] e)).alloc (.cells #[v3] e3)).heap.size = w.heap.size + 2 := by simp
  refine ⟨(((Box7.new w a0 a1 a2 a3 a4 a5 a6 e).past ((Below.refl _ _).alloc (by omega) _)).past ((Below.refl _ _).alloc (by omega) _)), ?_, ?_, ?_, ?_, by simp⟩
  · simp [go_sem]
  · simp [go_sem]
  · simp [go_sem]
  · simp [go_sem]
theorem Res.store (h : Res m a0 a1 a2 a3 a4 a5 a6 v3 v4 W) (b0 b1 b2 b3 b4 b5 b6 : Value) : Res m b0 b1 b2 b3 b4 b5 b6 v3 v4 (store7 m b0 b1 b2 b3 b4 b5 b6 W) where
  box := h.box.store b0 b1 b2 b3 b4 b5 b6
  c3 := (World.cell?_of_block (w := W) (a := ⟨m + 1, 0, none⟩) (store7_block _ _ _ _ _ _ _ _ _ (by show m + 1 ≠ m; omega))).trans h.c3
  c4 := (World.cell?_of_block (w := W) (a := ⟨m + 1 + 1, 0, none⟩) (store7_block _ _ _ _ _ _ _ _ _ (by show m + 2 ≠ m; omega))).trans h.c4
  f3 := (World.frozen?_of_block (w := W) (a := ⟨m + 1, 0, none⟩) (store7_block _ _ _ _ _ _ _ _ _ (by show m + 1 ≠ m; omega))).trans h.f3
  f4 := (World.frozen?_of_block (w := W) (a := ⟨m + 1 + 1, 0, none⟩) (store7_block _ _ _ _ _ _ _ _ _ (by show m + 2 ≠ m; omega))).trans h.f4
  lt := by rw [store7_size]; exact h.lt
end
def zRV : RV := .node 0 zeroT none 0 []
theorem zRV_rtree (B : Nat) (W : World) : RTree B W zRV := .mk ⟨Nat.zero_le _, rfl, rfl, Nat.zero_le _, Nat.zero_le _⟩ (Rd.nil_ (Nat.zero_le _)) (fun a ha => by simp [zRV, RV.args] at ha)
/-- what Parse hands back -/
def ParsePost (s : ByteArray) (w : World) (e : Ending) (w' : World) : Prop :=
  ∃ rv : RV, rv.tree = (parseL s.toList).1.getD zeroRT ∧ e = .returned (.tuple #[rv.val, .int .i64 ((parseL s.toList).2.1 : Int), .int .i64 (parseL s.toList).2.2]) ∧ RTree w'.heap.size w' rv ∧ Below w.heap.size w w'
theorem ParsePost.no {s : ByteArray} {w w' : World} {p : Nat} {n : Int} (h : parseL s.toList = (none, p, n)) (hb : Below w.heap.size w w') : ParsePost s w (.returned (.tuple #[zRV.val, .int .i64 (p : Int), .int .i64 n])) w' :=
  ⟨zRV, by rw [h]; rfl, by rw [h], zRV_rtree _ _, hb⟩
end
section
/- Walks: of how many parts a rich dependency is, how deep, and whether each has what it should (rich.measure); is it whole (rich.Whole). -/




open Go.RowKit Go.Shelf
set_option linter.unusedVariables false

theorem deepL_take {l : List RT} {k : Nat} (hk : k < l.length) : deepL (l.take (k + 1)) = max (deepL (l.take k)) l[k].deep := by rw [take_snoc l k hk, deepL_app]; simp [deepL]
theorem partsL_mono : ∀ (l : List RT) (k : Nat), partsL (l.take k) ≤ partsL l
  | [], k => by simp [partsL]
  | a :: l, 0 => by simp [partsL]
  | a :: l, k + 1 => by have := partsL_mono l k; simp only [List.take_succ_cons, partsL]; omega
theorem deep_parts : ∀ t : RT, t.deep ≤ t.parts
  | .mk k d l => by
    simp only [RT.deep, RT.parts]
    split
    · omega
    · have := deepL_parts l; omega
where
  deepL_parts : ∀ l : List RT, deepL l ≤ partsL l
    | [] => by simp [deepL]
    | a :: l => by have := deep_parts a; have := deepL_parts l; simp only [deepL, partsL]; omega
end
section
/- Walks: the document's answer for lex: its words, and words put together. -/






open Go.RowKit Go.Shelf
set_option linter.unusedVariables false

/-- How far the document's loop has come: k bytes are read, the words ys are whole, cur is begun. -/
def Far (L : Bytes) (k : Nat) (ys : List Tok) (cur : Option Tok) : Prop :=
  toks 0 none L = ys ++ toks k cur (L.drop k) ∧ (cur = none ↔ k = 0 ∨ ∃ c, L[k - 1]? = some c ∧ inn c = false)
theorem Far.room {L : Bytes} {k : Nat} {ys : List Tok} {cur : Option Tok} (h : Far L k ys cur) : (ys ++ flushT cur).length ≤ L.length := by
  have h1 := toks_len L 0 none
  rw [h.1] at h1
  have h2 : (flushT cur).length ≤ (toks k cur (L.drop k)).length := by
    cases cur with
    | none => simp [flushT]
    | some t => obtain ⟨q, t⟩ := t; rw [toks_some]; simp [flushT]
  simp only [List.length_append, flushT, List.length_nil, Nat.add_zero] at *
  omega
theorem Far.last {L : Bytes} {k : Nat} {c : UInt8} {r : Bytes} (hd : L.drop k = c :: r) : L[k + 1 - 1]? = some c := by
  have : L[k]? = (L.drop k)[0]? := by rw [List.getElem?_drop]; rfl
  rw [Nat.add_sub_cancel, this, hd]; rfl
theorem Far.spc {L : Bytes} {k : Nat} {ys : List Tok} {cur : Option Tok} {c : UInt8} (h : Far L k ys cur) (hd : L.drop k = c :: L.drop (k + 1)) (g : spc c = true) : Far L (k + 1) (ys ++ flushT cur) none := by
  have hi : inn c = false := by cases hc : inn c with | false => rfl | true => rw [spc_inn hc] at g; cases g
  refine ⟨?_, by simp only [true_iff]; exact .inr ⟨c, Far.last hd, hi⟩⟩
  rw [h.1, hd]
  cases cur with
  | none => rw [toks_spc g]; simp [flushT]
  | some t => obtain ⟨q, t⟩ := t; rw [toks, if_neg (by simp [hi]), if_pos g]; simp [flushT]
theorem Far.brk {L : Bytes} {k : Nat} {ys : List Tok} {cur : Option Tok} {c : UInt8} (h : Far L k ys cur) (hd : L.drop k = c :: L.drop (k + 1)) (g : brk c = true) : Far L (k + 1) (ys ++ flushT cur ++ [(k, [c])]) none := by
  have hi : inn c = false := by cases hc : inn c with | false => rfl | true => rw [brk_inn hc] at g; cases g
  refine ⟨?_, by simp only [true_iff]; exact .inr ⟨c, Far.last hd, hi⟩⟩
  rw [h.1, hd]
  cases cur with
  | none => rw [toks_brk g]; simp [flushT]
  | some t => obtain ⟨q, t⟩ := t; rw [toks, if_neg (by simp [hi]), if_neg (by simp [spc_brk g]), if_pos g]; simp [flushT]
theorem Far.more {L : Bytes} {k q : Nat} {t : Bytes} {ys : List Tok} {c : UInt8} (h : Far L k ys (some (q, t))) (hd : L.drop k = c :: L.drop (k + 1)) (g : inn c = true) : Far L (k + 1) ys (some (q, t ++ [c])) := by
  refine ⟨?_, by rw [Far.last hd]; simp [g]⟩
  rw [h.1, hd, toks, if_pos g]
/-- none of the first k bytes is wrong -/
def Clean (s : ByteArray) (k : Nat) : Prop := ∀ c ∈ s.toList.take k, wrong c = false
theorem Clean.next {s : ByteArray} {k : Nat} (h : Clean s k) (hlt : k < s.size) : (wrong s[k] = false → Clean s (k + 1)) ∧ (wrong s[k] = true → badAt s.toList = some k) := by
  constructor
  · intro g c hc
    rw [toList_take_succ s k hlt] at hc
    rcases List.mem_append.1 hc with hc | hc
    · exact h c hc
    · simp at hc; subst hc; exact g
  · intro g
    unfold badAt
    rw [List.findIdx?_eq_some_iff_getElem]
    refine ⟨by rw [size_toList]; exact hlt, by rw [toList_get s k hlt]; exact g, fun j hj => ?_⟩
    have hm : s.toList[j]'(by rw [size_toList]; omega) ∈ s.toList.take k := by
      rw [List.mem_take_iff_getElem]
      exact ⟨j, by rw [size_toList]; omega, rfl⟩
    simpa using h _ hm
theorem Clean.all {s : ByteArray} {k : Nat} (h : Clean s k) (hk : s.size ≤ k) : badAt s.toList = none := by
  unfold badAt
  rw [List.findIdx?_eq_none_iff]
  intro c hc
  have := h c (by rw [List.take_of_length_le (by rw [size_toList]; exact hk)]; exact hc)
  simpa using this
end
section
/- Walks: what the statements of lex ask first: are these a text's words; are the examples as they are told; is it too long. -/




open Go.RowKit Go.Shelf

def AllInn (s : ByteArray) (k : Nat) : Prop := (s.toList.take k).all inn = true
theorem AllInn.next {s : ByteArray} {k : Nat} (h : AllInn s k) (hlt : k < s.size) : (inn s[k] = true → AllInn s (k + 1)) ∧ (inn s[k] = false → s.toList.all inn = false) := by
  constructor
  · intro g
    unfold AllInn at *
    rw [toList_take_succ s k hlt, List.all_append, h]
    simp [g]
  · intro g
    rw [List.all_eq_false]
    exact ⟨s[k], by rw [← toList_get s k hlt]; exact List.getElem_mem _, by simp [g]⟩
end
section
/- Walks: the words of a rich dependency that is whole (rich.words). -/






open Go.RowKit Go.Shelf
set_option linter.unusedVariables false

theorem partsL_get : ∀ {l : List RT} {i : Nat} (h : i < l.length), l[i].parts ≤ partsL l
  | a :: l, 0, h => by simp [partsL]
  | a :: l, i + 1, h => by have := partsL_get (l := l) (i := i) (by simpa using h); simp only [List.getElem_cons_succ, partsL]; omega
end
section
/- Walks: is a rich dependency whole, its words, its text (rich.Whole, Words, Show). -/




open Go.RowKit Go.Shelf
set_option linter.unusedVariables false

/-- what Words hands back -/
def WPost (t : RT) (w : World) (e : Ending) (w' : World) : Prop :=
  if t.whole = true then ∃ A c, e = .returned (.tuple #[.slice A t.words.length c, .int .i64 0]) ∧ TR w' A (t.words.map bs) ∧ Below w.heap.size w w' else e = .returned (.tuple #[.slice none 0 0, .int .i64 4]) ∧ Below w.heap.size w w'
theorem WPost.no {t : RT} {w w' : World} (h : t.whole = false) (hb : Below w.heap.size w w') : WPost t w (.returned (.tuple #[.slice none 0 0, .int .i64 4])) w' := by unfold WPost; rw [if_neg (by rw [h]; decide)]; exact ⟨rfl, hb⟩
end
section
/- A rich dependency in a box of the call's own, through calls; what Show answers, what Parse refuses: plain facts. -/



open Go.RowKit Go.Shelf
set_option linter.unusedVariables false

structure BX (a : RV) (m : Nat) (W : World) : Prop where
  box : Box7 m (.int .u8 a.kind) (.string (bs a.dep.name)) (.int .u8 a.dep.op) (.int .i64 a.dep.evr.epoch) (.string (bs a.dep.evr.ver)) (.string (bs a.dep.evr.rel)) (.slice a.addr a.args.length a.cap) W
  tree : RTree W.heap.size W a
theorem BX.then {W W' : World} {a : RV} {m : Nat} (h : BX a m W) (hb : Below W.heap.size W W') : BX a m W' :=
  ⟨h.box.past (hb.mono h.box.2.2), (h.tree.keeps hb).more hb.size⟩
theorem BX.alloc {W : World} {a : RV} {m : Nat} (h : BX a m W) (o : Obj) : BX a m (W.alloc o) := h.then ((Below.refl _ _).alloc (Nat.le_refl _) o)
theorem BX.new {w : World} {a : RV} (ha : RTree w.heap.size w a) : BX a w.heap.size (w.alloc (.cells #[.int .u8 a.kind, .string (bs a.dep.name), .int .u8 a.dep.op, .int .i64 a.dep.evr.epoch, .string (bs a.dep.evr.ver), .string (bs a.dep.evr.rel), .slice a.addr a.args.length a.cap] 39)) :=
  ⟨Box7.new w _ _ _ _ _ _ _ _, (ha.keeps ((Below.refl _ _).alloc (Nat.le_refl _) _)).more (by simp)⟩
theorem BX.lt {W : World} {a : RV} {m : Nat} (h : BX a m W) : m < W.heap.size := h.box.2.2
end
end Go.Proofs.YtibeipmcggbbgaaGreatDoor
