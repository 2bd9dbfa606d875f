/- RichMem -/
import Derived.Test.YtcpjignlhlcnpaaDoorPkgNamesRowG08
import Derived.Test.YtcpjignlhlcnpaaDoorPkgNamesRowG13
import Derived.Test.YtcpjignlhlcnpaaDoorPkgNamesRowG17
set_option linter.unusedSimpArgs false
set_option linter.unusedVariables false
/- Rich dependencies and a reader of words in memory: trees in blocks of a kind; what a call leaves alone. -/




namespace Go.Proofs.YtcpjignlhlcnpaaDoor
open Go.RowKit
set_option linter.unusedVariables false

mutual
def RV.tree : RV → RT | .node k d _ _ l => .mk k d (treeL l)
def treeL : List RV → List RT | [] => [] | a :: l => a.tree :: treeL l
end
theorem treeL_app (l r : List RV) : treeL (l ++ r) = treeL l ++ treeL r := by
  induction l with
  | nil => rfl
  | cons a l ih => simp [treeL, ih]
theorem treeL_len (l : List RV) : (treeL l).length = l.length := by
  induction l with
  | nil => rfl
  | cons a l ih => simp [treeL, ih]
def RV.val (t : RV) : Value := .agg #[.int .u8 t.kind, .string (bs t.dep.name), .int .u8 t.dep.op, .int .i64 t.dep.evr.epoch, .string (bs t.dep.evr.ver), .string (bs t.dep.evr.rel), .slice t.addr t.args.length t.cap]
/-- a tree that lies in blocks of a kind -/
inductive TQ (Q : Nat → Prop) (W : World) : RV → Prop where
  | mk {t : RV} : t.dep.wf → t.args.length ≤ t.cap → t.cap ≤ maxLen → (∀ (k : Nat) (hk : k < t.args.length), ∃ b o, t.addr = some ⟨b, o, none⟩ ∧ Q b ∧ ∀ j u, (encR t.args[k])[j]? = some u → W.cell? ⟨b, o + k * 7 + j, none⟩ = some u) → (∀ a ∈ t.args, TQ Q W a) → TQ Q W t
theorem TQ.keep {Q Q' : Nat → Prop} {W W' : World} {t : RV} (h : TQ Q W t) (hQ : ∀ b, Q b → Q' b) (hb : ∀ b, Q b → W'.heap[b]? = W.heap[b]?) : TQ Q' W' t := by
  induction h with
  | mk h1 h2 h3 h4 _ ih =>
    refine .mk h1 h2 h3 (fun k hk => ?_) ih
    obtain ⟨b, o, e, q, hc⟩ := h4 k hk
    exact ⟨b, o, e, hQ b q, fun j u hu => (World.cell?_of_block (w := W) (hb b q)).trans (hc j u hu)⟩
theorem TQ.rtree {Q : Nat → Prop} {W : World} {t : RV} {B : Nat} (h : TQ Q W t) (hQ : ∀ b, Q b → b < B) : RTree B W t := by
  induction h with
  | mk h1 h2 h3 h4 _ ih =>
    refine .mk h1 ⟨h2, h3, fun k hk => ?_⟩ ih
    obtain ⟨b, o, e, q, hc⟩ := h4 k hk
    exact ⟨b, o, e, hQ b q, hc⟩
/-- every block but one stays -/
structure ButR (R : Nat) (w w' : World) : Prop where
  os : w'.os = w.os
  tape : w'.tape = w.tape
  output : w'.output = w.output
  size : w.heap.size ≤ w'.heap.size
  block : ∀ k, k < w.heap.size → k ≠ R → w'.heap[k]? = w.heap[k]?
theorem ButR.refl (R : Nat) (w : World) : ButR R w w := ⟨rfl, rfl, rfl, Nat.le_refl _, fun _ _ _ => rfl⟩
theorem ButR.trans {R : Nat} {a b c : World} (h : ButR R a b) (k : ButR R b c) : ButR R a c :=
  ⟨k.os.trans h.os, k.tape.trans h.tape, k.output.trans h.output, Nat.le_trans h.size k.size, fun i hi hr => (k.block i (Nat.lt_of_lt_of_le hi h.size) hr).trans (h.block i hi hr)⟩
theorem ButR.of {R : Nat} {w w' : World} (h : Below w.heap.size w w') : ButR R w w' := ⟨h.os, h.tape, h.output, h.size, fun k hk _ => h.block k hk⟩
theorem ButR.set {R : Nat} {a w : World} (h : ButR R a w) (i : Nat) (u : Value) : ButR R a (w.setCell ⟨R, i, none⟩ u) :=
  h.trans ⟨rfl, rfl, rfl, by simp [World.setCell], fun k hk hr => Below.heap_setCell _ _ _ _ hr⟩
theorem ButR.drew {R : Nat} {a w : World} (h : ButR R a w) : ButR R a w.drew := ⟨h.os, h.tape, h.output, h.size, h.block⟩
theorem ButR.below {R B : Nat} {w w' : World} (h : ButR R w w') (hB : B ≤ R) (hR : R < w.heap.size) : Below B w w' := ⟨h.os, h.tape, h.output, h.size, fun k hk => h.block k (by omega) (by omega)⟩
theorem ButR.cellK {R : Nat} {w w' : World} (h : ButR R w w') {p : Addr} (hp : p.block < w.heap.size) (hr : p.block ≠ R) : w'.cell? p = w.cell? p := World.cell?_of_block (w := w) (h.block p.block hp hr)
theorem ButR.frozenK {R : Nat} {w w' : World} (h : ButR R w w') {p : Addr} (hp : p.block < w.heap.size) (hr : p.block ≠ R) : w'.frozen? p = w.frozen? p := World.frozen?_of_block (w := w) (h.block p.block hp hr)
/-- a struct of seven cells of the call's own, which may be written -/
def Box7 (m : Nat) (a0 a1 a2 a3 a4 a5 a6 : Value) (W : World) : Prop :=
  (W.cell? ⟨m, 0, none⟩ = some a0 ∧ W.cell? ⟨m, 1, none⟩ = some a1 ∧ W.cell? ⟨m, 2, none⟩ = some a2 ∧ W.cell? ⟨m, 3, none⟩ = some a3 ∧ W.cell? ⟨m, 4, none⟩ = some a4 ∧ W.cell? ⟨m, 5, none⟩ = some a5 ∧ W.cell? ⟨m, 6, none⟩ = some a6) ∧
  (W.frozen? ⟨m, 0, none⟩ = false ∧ W.frozen? ⟨m, 1, none⟩ = false ∧ W.frozen? ⟨m, 2, none⟩ = false ∧ W.frozen? ⟨m, 3, none⟩ = false ∧ W.frozen? ⟨m, 4, none⟩ = false ∧ W.frozen? ⟨m, 5, none⟩ = false ∧ W.frozen? ⟨m, 6, none⟩ = false) ∧ m < W.heap.size
theorem Box7.new (W : World) (a0 a1 a2 a3 a4 a5 a6 : Value) (e : TypeId) : Box7 W.heap.size a0 a1 a2 a3 a4 a5 a6 (W.alloc (.cells #[a0, a1, a2, a3, a4, a5, a6] e)) := by
  unfold Box7
  refine ⟨⟨?_, ?_, ?_, ?_, ?_, ?_, ?_⟩, ⟨?_, ?_, ?_, ?_, ?_, ?_, ?_⟩, by simp⟩
  all_goals first | (exact (World.cell?_alloc_at _ _ _ _ rfl).trans rfl) | simp [go_sem] | skip
/-- seven cells are written -/
def store7 (m : Nat) (b0 b1 b2 b3 b4 b5 b6 : Value) (W : World) : World := ((((((W.setCell ⟨m, 0, none⟩ b0).setCell ⟨m, 1, none⟩ b1).setCell ⟨m, 2, none⟩ b2).setCell ⟨m, 3, none⟩ b3).setCell ⟨m, 4, none⟩ b4).setCell ⟨m, 5, none⟩ b5).setCell ⟨m, 6, none⟩ b6
theorem store7_below {B m : Nat} (hm : B ≤ m) {a W : World} (h : Below B a W) (b0 b1 b2 b3 b4 b5 b6 : Value) : Below B a (store7 m b0 b1 b2 b3 b4 b5 b6 W) := by
  unfold store7
  exact ((((((h.setCell (p := ⟨m, 0, none⟩) hm _).setCell (p := ⟨m, 1, none⟩) hm _).setCell (p := ⟨m, 2, none⟩) hm _).setCell (p := ⟨m, 3, none⟩) hm _).setCell (p := ⟨m, 4, none⟩) hm _).setCell (p := ⟨m, 5, none⟩) hm _).setCell (p := ⟨m, 6, none⟩) hm _
theorem store7_size (m : Nat) (b0 b1 b2 b3 b4 b5 b6 : Value) (W : World) : (store7 m b0 b1 b2 b3 b4 b5 b6 W).heap.size = W.heap.size := by simp [store7, World.setCell]
theorem store7_block (m : Nat) (b0 b1 b2 b3 b4 b5 b6 : Value) (W : World) {k : Nat} (h : k ≠ m) : (store7 m b0 b1 b2 b3 b4 b5 b6 W).heap[k]? = W.heap[k]? := by
  unfold store7
  rw [Below.heap_setCell _ _ _ _ h, Below.heap_setCell _ _ _ _ h, Below.heap_setCell _ _ _ _ h, Below.heap_setCell _ _ _ _ h, Below.heap_setCell _ _ _ _ h, Below.heap_setCell _ _ _ _ h, Below.heap_setCell _ _ _ _ h]
theorem Box7.store {m : Nat} {a0 a1 a2 a3 a4 a5 a6 : Value} {W : World} (h : Box7 m a0 a1 a2 a3 a4 a5 a6 W) (b0 b1 b2 b3 b4 b5 b6 : Value) : Box7 m b0 b1 b2 b3 b4 b5 b6 (store7 m b0 b1 b2 b3 b4 b5 b6 W) := by
  obtain ⟨⟨h0, h1, h2, h3, h4, h5, h6⟩, ⟨f0, f1, f2, f3, f4, f5, f6⟩, hl⟩ := h
  unfold store7 Box7
  refine ⟨⟨?_, ?_, ?_, ?_, ?_, ?_, ?_⟩, ⟨?_, ?_, ?_, ?_, ?_, ?_, ?_⟩, by simpa [World.setCell] using hl⟩
  all_goals simp [go_sem, h0, h1, h2, h3, h4, h5, h6, f0, f1, f2, f3, f4, f5, f6]
/-- a row of the call's own through a call that leaves all but R -/
theorem Own.butR {α : Type} {enc : α → List Value} {size base R : Nat} {e : TypeId} {v : Value} {l : List α} {w w' : World} (h : Own enc size base e v l w) (hb : ButR R w w') (hR : R < base) : Own enc size base e v l w' := by
  unfold Own at *
  refine ⟨h.1, ?_⟩
  rcases h.2 with h2 | ⟨g, cap, cur, hv, hg, hh, r⟩
  · exact .inl h2
  · have hl : g < w.heap.size := (Array.getElem?_eq_some_iff.1 hh).1
    exact .inr ⟨g, cap, cur, hv, hg, by rw [hb.block g hl (by omega)]; exact hh, r⟩
theorem sc_other {w : World} {a b : Addr} {v : Value} (h : a ≠ b) : (w.setCell a v).cell? b = w.cell? b := World.cell?_setCell_other w a b v h
theorem sc_same {w : World} {a : Addr} {v u : Value} (h : w.cell? a = some u) : (w.setCell a v).cell? a = some v := World.cell?_setCell_same w a v h
/-- the reader: its words, the text's end, how many parts were read, how many brackets are open -/
structure St (w0 : World) (R e : Nat) (ws : List Tok) (n o : Nat) (A : Option Addr) (c : Nat) (W : World) : Prop where
  base : w0.heap.size ≤ R
  lt : R < W.heap.size
  c0 : W.cell? ⟨R, 0, none⟩ = some (.slice A ws.length c)
  c1 : W.cell? ⟨R, 1, none⟩ = some (.int .i64 (e : Int))
  c2 : W.cell? ⟨R, 2, none⟩ = some (.int .i64 (n : Int))
  c3 : W.cell? ⟨R, 3, none⟩ = some (.int .i64 (o : Int))
  f0 : W.frozen? ⟨R, 0, none⟩ = false
  f2 : W.frozen? ⟨R, 2, none⟩ = false
  f3 : W.frozen? ⟨R, 3, none⟩ = false
  row : Rd encTok 2 R A c ws W
  away : ∀ b off, A = some ⟨b, off, none⟩ → w0.heap.size + 3 ≤ b
  old : Below w0.heap.size w0 W
  small : ∀ x ∈ ws, x.2.length ≤ 10000 ∧ x.1 ≤ 10000
section
variable {w0 W W' : World} {R e : Nat} {ws : List Tok} {n o : Nat} {A : Option Addr} {c : Nat}
theorem St.past (h : St w0 R e ws n o A c W) (hb : Below (R + 1) W W') : St w0 R e ws n o A c W' where
  base := h.base
  lt := Nat.lt_of_lt_of_le h.lt hb.size
  c0 := (hb.cell (p := ⟨R, 0, none⟩) (Nat.lt_succ_self R)).trans h.c0
  c1 := (hb.cell (p := ⟨R, 1, none⟩) (Nat.lt_succ_self R)).trans h.c1
  c2 := (hb.cell (p := ⟨R, 2, none⟩) (Nat.lt_succ_self R)).trans h.c2
  c3 := (hb.cell (p := ⟨R, 3, none⟩) (Nat.lt_succ_self R)).trans h.c3
  f0 := (hb.frozen (p := ⟨R, 0, none⟩) (Nat.lt_succ_self R)).trans h.f0
  f2 := (hb.frozen (p := ⟨R, 2, none⟩) (Nat.lt_succ_self R)).trans h.f2
  f3 := (hb.frozen (p := ⟨R, 3, none⟩) (Nat.lt_succ_self R)).trans h.f3
  row := h.row.below (hb.mono (Nat.le_succ R))
  away := h.away
  old := h.old.trans (hb.mono (Nat.le_succ_of_le h.base))
  small := h.small
theorem St.then (h : St w0 R e ws n o A c W) (hb : Below W.heap.size W W') : St w0 R e ws n o A c W' := h.past (hb.mono h.lt)
theorem St.rowSet (h : St w0 R e ws n o A c W) (i : Nat) (u : Value) : Rd encTok 2 R A c ws (W.setCell ⟨R, i, none⟩ u) := h.row.keep fun p hp => sc_other (fun hh => by rw [← hh] at hp; exact Nat.lt_irrefl _ hp)
theorem St.oldSet (h : St w0 R e ws n o A c W) (i : Nat) (u : Value) : Below w0.heap.size w0 (W.setCell ⟨R, i, none⟩ u) := h.old.setCell (p := ⟨R, i, none⟩) h.base u
/-- a word is taken -/
theorem St.take {x : Tok} {b off off' c' : Nat} (h : St w0 R e (x :: ws) n o (some ⟨b, off, none⟩) c W) (hc : c' = c - 1) (ho : ws ≠ [] → off' = off + 2) : St w0 R e ws n o (some ⟨b, off', none⟩) c' (W.setCell ⟨R, 0, none⟩ (.slice (some ⟨b, off', none⟩) ws.length c')) where
  base := h.base
  lt := by simpa [World.setCell] using h.lt
  c0 := sc_same h.c0
  c1 := (sc_other (by simp)).trans h.c1
  c2 := (sc_other (by simp)).trans h.c2
  c3 := (sc_other (by simp)).trans h.c3
  f0 := by rw [World.frozen?_setCell]; exact h.f0
  f2 := by rw [World.frozen?_setCell]; exact h.f2
  f3 := by rw [World.frozen?_setCell]; exact h.f3
  row := by
    have hr := h.rowSet 0 (.slice (some ⟨b, off', none⟩) ws.length c')
    have h1 := hr.1
    have h2 := hr.2.1
    simp only [List.length_cons] at h1
    refine ⟨by omega, by omega, fun k hk => ?_⟩
    have hne : ws ≠ [] := by rintro rfl; simp at hk
    obtain ⟨b', o', e', hb, hc'⟩ := hr.2.2 (k + 1) (by simp; omega)
    cases e'
    refine ⟨b, off', rfl, hb, fun j u hu => ?_⟩
    have := hc' j u (by simpa using hu)
    rw [show off' + k * 2 + j = off + (k + 1) * 2 + j by have := ho hne; omega]
    exact this
  away := fun b' o' e' => by cases e'; exact h.away b off rfl
  old := h.oldSet 0 _
  small := fun y hy => h.small y (by simp [hy])
end
end Go.Proofs.YtcpjignlhlcnpaaDoor
