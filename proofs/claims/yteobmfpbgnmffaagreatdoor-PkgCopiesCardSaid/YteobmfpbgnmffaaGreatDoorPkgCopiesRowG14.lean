/- RichBracket, RichPlain2, RichSame, Held, RichBrk, RichCatch, RichClone, RichWords, RichBx -/
import Derived.Test.YteobmfpbgnmffaaGreatDoorPkgCopiesRowG13
import Derived.Test.YteobmfpbgnmffaaGreatDoorPkgCopiesRowG12
import Derived.Test.YteobmfpbgnmffaaGreatDoorPkgCopiesRowG01
import Derived.Test.YteobmfpbgnmffaaGreatDoorPkgCopiesRowG08
import Derived.Deep.RegionLaw
import Derived.Deep.QuietTactic
import Derived.BigQuiet
import Derived.StillTailTactics
import Derived.Deep.RegionHeld3
import Derived.Defers
import Derived.Recover
import Derived.RangeFuncNested
import Derived.RangeFuncBound
import Derived.RangeFuncCalls
import Derived.RangeFuncLeaves
import Derived.RangeFuncBox
import Derived.Shelf.Abstract
import Derived.Shelf.RegionOpen
import Derived.OwnWalkIn
import Derived.TacticsInMore
import Derived.LoopNIn
import Derived.LoopIn
import Derived.Test.YteobmfpbgnmffaaGreatDoorShelf
import Derived.Shelf.Strings.BuilderX
import Derived.Lib.Builder
import Derived.Lib.AppendStr
import Derived.Lib.UnsafeStr
import Derived.Laws.Externs
import Derived.RegionTactic
import Derived.ChangeAlike
import Derived.Maps.AppendAt
set_option linter.unusedSimpArgs false
set_option linter.unusedVariables false
namespace Go.Proofs.YteobmfpbgnmffaaGreatDoor
section
/- Walks: all that is no plain dependency is read (rich.reader's bracket). -/




open Go.RowKit Go.Shelf
set_option linter.unusedVariables false

theorem encR_len (t : RV) : (encR t).length = 7 := rfl
theorem encR_one (t : RV) : ∀ u ∈ encR t, u.oneCell' = true := by
  intro u hu
  simp only [encR, List.mem_cons, List.not_mem_nil, or_false] at hu
  rcases hu with rfl | rfl | rfl | rfl | rfl | rfl | rfl <;> rfl
def zBox (m : Nat) (W : World) : Prop := Box7 m (.int .u8 0) (.string ⟨#[]⟩) (.int .u8 0) (.int .i64 0) (.string ⟨#[]⟩) (.string ⟨#[]⟩) (.slice none 0 0) W
section
variable {w0 W wr w' : World} {R e o m m2 n n' : Nat} {k k' : Int} {l : List RV} {v : Value} {ws ws' : List Tok}
theorem box7_set6 {a0 a1 a2 a3 a4 a5 a6 : Value} (h : Box7 m a0 a1 a2 a3 a4 a5 a6 W) (u : Value) : Box7 m a0 a1 a2 a3 a4 a5 u (W.setCell ⟨m, 6, none⟩ u) := by
  obtain ⟨⟨h0, h1, h2, h3, h4, h5, h6⟩, ⟨f0, f1, f2, f3, f4, f5, f6⟩, hl⟩ := h
  unfold Box7
  refine ⟨⟨?_, ?_, ?_, ?_, ?_, ?_, ?_⟩, ⟨?_, ?_, ?_, ?_, ?_, ?_, ?_⟩, by simpa [World.setCell] using hl⟩
  all_goals simp [go_sem, h0, h1, h2, h3, h4, h5, h6, f0, f1, f2, f3, f4, f5, f6]
end
end
section
/- Rich dependencies in plain terms: what is read of a text; spaces about it; places. -/


open Go.RowKit

mutual
def sameT : RT → RT → Bool
  | .mk k d l, .mk k' d' l' => (decide (k = k') && decide (d.name = d'.name) && decide (d.op = d'.op) && decide (d.evr.epoch = d'.evr.epoch) && decide (d.evr.ver = d'.evr.ver) && decide (d.evr.rel = d'.evr.rel)) && sameL l l'
def sameL : List RT → List RT → Bool
  | [], [] => true
  | a :: l, b :: r => sameT a b && sameL l r
  | [], _ :: _ => false
  | _ :: _, [] => false
end
theorem dp_ext {d d' : Dp} (h1 : d.name = d'.name) (h2 : d.op = d'.op) (h3 : d.evr.epoch = d'.evr.epoch) (h4 : d.evr.ver = d'.evr.ver) (h5 : d.evr.rel = d'.evr.rel) : d = d' := by
  obtain ⟨n, o, e, v, r⟩ := d
  obtain ⟨n', o', e', v', r'⟩ := d'
  simp only at h1 h2 h3 h4 h5
  subst h1 h2 h3 h4 h5
  rfl
mutual
theorem sameT_iff : ∀ a b : RT, sameT a b = true ↔ a = b
  | .mk k d l, .mk k' d' l' => by
    simp only [sameT, Bool.and_eq_true, decide_eq_true_eq, sameL_iff l l', RT.mk.injEq]
    constructor
    · rintro ⟨⟨⟨⟨⟨⟨h0, h1⟩, h2⟩, h3⟩, h4⟩, h5⟩, h6⟩
      exact ⟨h0, dp_ext h1 h2 h3 h4 h5, h6⟩
    · rintro ⟨rfl, rfl, rfl⟩
      simp
theorem sameL_iff : ∀ l r : List RT, sameL l r = true ↔ l = r
  | [], [] => by simp [sameL]
  | a :: l, b :: r => by simp [sameL, sameT_iff a b, sameL_iff l r]
  | [], _ :: _ => by simp [sameL]
  | _ :: _, [] => by simp [sameL]
end
/- places -/
/- spaces about a text -/
end
section
/- Walks: are two rich dependencies the same (chandleryref08.Same). -/






open Go.RowKit Go.Shelf
set_option linter.unusedVariables false

mutual
def RV.ht : RV → Nat | .node _ _ _ _ l => htL l + 1
def htL : List RV → Nat | [] => 0 | a :: l => max a.ht (htL l)
end
theorem ht_mem {a : RV} : ∀ {l : List RV}, a ∈ l → a.ht ≤ htL l
  | [], h => by simp at h
  | b :: l, h => by
    simp only [htL]
    rcases List.mem_cons.1 h with rfl | h
    · exact Nat.le_max_left _ _
    · exact Nat.le_trans (ht_mem h) (Nat.le_max_right _ _)
theorem ht_args (t : RV) : t.ht = htL t.args + 1 := by obtain ⟨k, d, A, c, l⟩ := t; rfl
theorem tree_parts (t : RV) : t.tree = .mk t.kind t.dep (treeL t.args) := by obtain ⟨k, d, A, c, l⟩ := t; rfl
theorem RTree.rrow {B : Nat} {W : World} {t : RV} (h : RTree B W t) : RRow B W t.addr t.cap t.args := ⟨h.row, h.sub⟩
theorem dec_bs (x y : Bytes) : decide (x = y) = decide ((bs x).toList = (bs y).toList) := by rw [bs_toList, bs_toList]
theorem sameL_take {l r : List RT} {k : Nat} (hl : l.length = r.length) (hk : k < l.length) : sameL (l.take (k + 1)) (r.take (k + 1)) = (sameL (l.take k) (r.take k) && sameT l[k] (r[k]'(by omega))) := by
  rw [take_snoc l k hk, take_snoc r k (by omega)]
  have hlen : (l.take k).length = (r.take k).length := by simp; omega
  generalize l.take k = a at *
  generalize r.take k = b at *
  induction a generalizing b with
  | nil => cases b with
    | nil => simp [sameL]
    | cons y b => simp at hlen
  | cons x a ih => cases b with
    | nil => simp at hlen
    | cons y b => simp only [List.cons_append, sameL, ih b (by simpa using hlen), Bool.and_assoc]
theorem sameL_len : ∀ {l r : List RT}, l.length ≠ r.length → sameL l r = false
  | [], [], h => absurd rfl h
  | a :: l, b :: r, h => by simp only [sameL]; rw [sameL_len (by simpa using h)]; simp
  | [], _ :: _, _ => rfl
  | _ :: _, [], _ => rfl
theorem sameL_no {l r : List RT} {k : Nat} (h : sameL (l.take k) (r.take k) = false) : sameL l r = false := by
  cases hs : sameL l r with
  | false => rfl
  | true => rw [(sameL_iff l r).1 hs, (sameL_iff _ _).2 rfl] at h; exact h
theorem treeL_get (l : List RV) (k : Nat) (h : k < l.length) : (treeL l)[k]'(by rw [treeL_len]; exact h) = l[k].tree := by
  induction l generalizing k with
  | nil => simp at h
  | cons a l ih => cases k with
    | zero => simp [treeL]
    | succ k => simp only [treeL, List.getElem_cons_succ]; exact ih k (by simpa using h)
end
section
/- A drawn region walked by hand, where a guard is false: what is not wanted is taken first too. -/


section
variable {P : Program} {ops : Array Oper} {Q : Exit → Act → World → Prop} {md : Region.Mode} {S : World → Prop}
theorem held_take (i : Nat) (d : Option Tmp) (v : Value) {oi : Oper} {fuel : Nat} {listed : Array Bool} {a : Act} {w : World} (hi : ops[i]? = some oi) (hd : oi.dst = d)
    (hs : Region.noSelect ops = true) (hf : Region.free md ops listed i = true) (hr : (Region.ready md ops listed).contains i = true)
    (hQ : ∀ c a w, Q (.panic c) (a.put d v) w → Q (.panic c) a w) (hS : S w) (hw : Region.wanted oi (yielded ops a.tmps) = true) (hy : ∀ w, S w → (execOp a.eval oi).run P w = .ok (.value v) w)
    (h : wpAnyH P md ops Q S fuel (listed.setIfInBounds i true) (a.put d v) w) : wpAnyH P md ops Q S (fuel + 1) listed a w := by
  subst hd
  exact wpAnyH_take hi hs hf hr hQ (.inl ⟨hw, hy⟩) hS h
end
end
section
/- Walks: all that is no plain dependency is read (rich.reader's bracket): the walk. -/




open Go.RowKit Go.Shelf
set_option linter.unusedVariables false

theorem rd_lit (w : World) (t : RV) : Rd encR 7 (w.heap.size + 1) (some ⟨w.heap.size, 0, none⟩) 1 [t] (w.alloc (.cells #[.int .u8 t.kind, .string (bs t.dep.name), .int .u8 t.dep.op, .int .i64 t.dep.evr.epoch, .string (bs t.dep.evr.ver), .string (bs t.dep.evr.rel), .slice t.addr t.args.length t.cap] 39)) := by
  refine ⟨Nat.le_refl _, by decide, fun k hk => ⟨w.heap.size, 0, rfl, Nat.lt_succ_self _, fun j u hu => ?_⟩⟩
  have hk0 : k = 0 := by simp at hk; omega
  subst hk0
  rw [Nat.zero_mul, Nat.add_zero, Nat.zero_add]
  refine (World.cell?_alloc_at _ _ _ _ rfl).trans ?_
  rw [← Array.getElem?_toList]
  exact hu
end
section
/- Walks: the closure that rich.Parse defers: it recovers what a part was refused with. -/






open Go.RowKit Go.Shelf
set_option linter.unusedVariables false

theorem tm3 (a b c : Value) : #[a, b, c] ++ Array.replicate 19 undef = #[a, b, c, undef, undef, undef, undef, undef, undef, undef, undef, undef, undef, undef, undef, undef, undef, undef, undef, undef, undef, undef] := by
  apply Array.ext'
  rw [Array.toList_append, Array.toList_replicate]
  rfl
end
section
/- Walks: slices.Clone of the words of a text. -/



open Go.RowKit Go.Shelf
set_option linter.unusedVariables false

section
variable {P : Program} {α : Type} {enc : α → List Value} (w : World)
theorem wpList_append_rd {ops : Array Oper} {rest : List Oper} {o : Oper} {a : Act} {Q : Exit → Act → World → Prop} (hgd : o.guard = none) (s x : Operand) (t : TypeId)
    (ho : o.op = .call { callee := .builtin .append, args := #[s, x], argTypes := #[t, t] })
    (base : Nat) (e : TypeId) (i : TypeInfo) (z : Value) (size bytes : Nat) (ht : P.underlying t = some (.slice e)) (hi : P.info? e = some i) (hz : i.zero = some z) (hsize : i.size = size) (hby : i.bytes = bytes) (hzc : z.cells.size = size) (hs0 : 0 < size)
    (he : ∀ x, (enc x).length = size) (h1 : ∀ x, ∀ u ∈ enc x, u.oneCell' = true)
    (v : Value) (n : Nat) (xs : List Value) (hs : a.eval s = v) (hown : w.ownsRow base e size v n xs) (B : Nat) (A : Option Addr) (c : Nat) (D : List α) (m : Nat) (hm : m = D.length) (hx : a.eval x = .slice A m c) (hT : Rd enc size B A c D w) (hn : n + D.length ≤ 1000000) (hbytes : bytes ≤ 1000) (hbase : base ≤ w.heap.size)
    (h : ∀ v' w', w'.ownsRow base e size v' (n + D.length) (xs ++ D.flatMap enc) → w.grownBy w' v.ownBlock → (v'.ownBlock = v.ownBlock ∨ v'.ownBlock = some w.heap.size) → wpList P ops Q rest (a.put o.dst v') w') :
    wpList P ops Q (o :: rest) a w := by
  subst hm
  refine wpList_plain hgd fun _ hK => ?_
  obtain ⟨v', w', hrun, r1, r2, r3⟩ := run_append_rd (P := P) w base t o.type e i z size bytes ht hi hz hsize hby hzc hs0 he h1 v n xs hown B A c D hT hn hbytes hbase
  unfold Oper.wp
  simp [execOp, ho, resolve, invoke, builtin, hs, hx, hrun, Result.andThen]
  exact hK _ _ (h v' w' r1 r2 r3)
end
end
section
/- Walks: the words of a rich dependency that is whole (rich.words). -/






open Go.RowKit Go.Shelf
set_option linter.unusedVariables false

theorem partsL_get : ∀ {l : List RT} {i : Nat} (h : i < l.length), l[i].parts ≤ partsL l
  | a :: l, 0, h => by simp [partsL]
  | a :: l, i + 1, h => by have := partsL_get (l := l) (i := i) (by simpa using h); simp only [List.getElem_cons_succ, partsL]; omega
end
section
/- A rich dependency in a box of the call's own, through calls; what Show answers, what Parse refuses: plain facts. -/



open Go.RowKit Go.Shelf
set_option linter.unusedVariables false

structure BX (a : RV) (m : Nat) (W : World) : Prop where
  box : Box7 m (.int .u8 a.kind) (.string (bs a.dep.name)) (.int .u8 a.dep.op) (.int .i64 a.dep.evr.epoch) (.string (bs a.dep.evr.ver)) (.string (bs a.dep.evr.rel)) (.slice a.addr a.args.length a.cap) W
  tree : RTree W.heap.size W a
end
end Go.Proofs.YteobmfpbgnmffaaGreatDoor
