/- PkAllM -/
import Derived.Test.YteobmfpbgnmffaaGreatDoorPkgCopiesRowG31
import Derived.Test.YteobmfpbgnmffaaGreatDoorPkgCopiesRowG32
import Derived.Maps.OwnIn
import Derived.OwnWalkIn
set_option linter.unusedSimpArgs false
set_option linter.unusedVariables false
/- pkg.All: the rich dependencies that are put down so far. -/




namespace Go.Proofs.YteobmfpbgnmffaaGreatDoor
open Go.RowKit Go.Shelf
set_option linter.unusedVariables false

section
variable {F : Fence} {nF : Nat} {P : Program} {ops : Array Oper} {Q : Exit → Act → World → Prop} {md : Region.Mode} {fuel : Nat} {listed : Array Bool} {a : Act} {w : World}
theorem anyIn_one (i : Nat) (o : Oper) (hr : Region.ready md ops listed = [i]) (ho : ops[i]? = some o) (hw : Region.wanted o (yielded ops a.tmps) = true) (h : ∀ K : Act → World → Prop, (∀ a' w', wpAnyIn F nF P md ops Q fuel (listed.setIfInBounds i true) a' w' → K a' w') → Oper.wpIn F nF P o a w K Q) : wpAnyIn F nF P md ops Q (fuel + 1) listed a w := by
  refine ⟨fun e => (by rw [hr] at e; cases e), fun k hk => ?_⟩
  rw [hr] at hk
  obtain rfl : k = i := by simpa using hk
  unfold wpOpIn
  simp only [ho]
  rw [if_pos hw]
  exact h _ fun _ _ h => h
theorem anyIn_two (i j : Nat) (o u : Oper) (hr : Region.ready md ops listed = [i, j]) (ho : ops[i]? = some o) (hu : ops[j]? = some u) (hw : Region.wanted o (yielded ops a.tmps) = true) (hv : Region.wanted u (yielded ops a.tmps) = true) (h : ∀ K : Act → World → Prop, (∀ a' w', wpAnyIn F nF P md ops Q fuel (listed.setIfInBounds i true) a' w' → K a' w') → Oper.wpIn F nF P o a w K Q) (k : ∀ K : Act → World → Prop, (∀ a' w', wpAnyIn F nF P md ops Q fuel (listed.setIfInBounds j true) a' w' → K a' w') → Oper.wpIn F nF P u a w K Q) : wpAnyIn F nF P md ops Q (fuel + 1) listed a w := by
  refine ⟨fun e => (by rw [hr] at e; cases e), fun x hx => ?_⟩
  rw [hr] at hx
  have hx2 : x = i ∨ x = j := by simpa using hx
  unfold wpOpIn
  rcases hx2 with rfl | rfl
  · simp only [ho]
    rw [if_pos hw]
    exact h _ fun _ _ h => h
  · simp only [hu]
    rw [if_pos hv]
    exact k _ fun _ _ h => h
theorem anyIn_done (hr : Region.ready md ops listed = []) (h : Q .normal a w) : wpAnyIn F nF P md ops Q 0 listed a w := ⟨hr, h⟩
theorem opIn_append_own {o : Oper} {K : Act → World → Prop} (s x : Operand) (t : TypeId)
    (ho : o.op = .call { callee := .builtin .append, args := #[s, x], argTypes := #[t, t] })
    (base : Nat) (e : TypeId) (i : TypeInfo) (z : Value) (size bytes : Nat) (ht : P.underlying t = some (.slice e)) (hi : P.info? e = some i) (hz : i.zero = some z)
    (hsize : i.size = size) (hby : i.bytes = bytes) (hzs : z.cells.size = size) (hsz : 0 < size)
    (v : Value) (n : Nat) (xs : List Value) (hs : a.eval s = v) (hown : w.ownsRow base e size v n xs)
    (ad : Addr) (m c : Nat) (news : List Value) (hx : a.eval x = .slice (some ad) m c) (hl : news.length = m * size) (hnews : ∀ j u, news[j]? = some u → w.cell? (ad.add j) = some u) (h1 : ∀ u ∈ news, u.oneCell' = true)
    (h63 : n + m ≤ maxLen) (hbytes : (n + m) * bytes ≤ 140737488355328) (hbase : base ≤ w.heap.size)
    (h : ∀ v' w', w'.ownsRow base e size v' (n + m) (xs ++ news) → w.grownBy w' v.ownBlock → (v'.ownBlock = v.ownBlock ∨ v'.ownBlock = some w.heap.size) → K (a.put o.dst v') w') : Oper.wpIn F nF P o a w K Q := by
  obtain ⟨v', w', hr, h2, h3, h4, h5⟩ := run_append_own_at (P := P) w base t o.type e i z size bytes ht hi hz hsize hby hzs hsz v n xs hown ad m c news hl hnews h1 h63 hbytes hbase
  unfold Oper.wpIn
  refine ⟨by simp [Oper.about, ho, resolve, Target.leads, Sem.run_pure], ?_⟩
  rw [Oper.semAt_plain F _ _ (by rw [ho]; intro c hc'; cases hc')]
  simp [execOp, ho, resolve, invoke, builtin, hs, hx, hr, Result.andThen]
  exact h v' w' h2 h3 h5
end
theorem setCell_comm (w : World) (a b : Addr) (u v : Value) (h : a.block ≠ b.block) : (w.setCell a u).setCell b v = (w.setCell b v).setCell a u := by
  unfold World.setCell
  dsimp only
  congr 1
  refine Array.ext (by simp) fun i h1 h2 => ?_
  simp only [Array.getElem_modify]
  by_cases e1 : a.block = i
  · by_cases e2 : b.block = i
    · exact absurd (e1.trans e2.symm) h
    · simp [e1, e2]
  · by_cases e2 : b.block = i
    · simp [e1, e2]
    · simp [e1, e2]
theorem setL_comm (g : Nat) (p : Addr) (v : Value) (h : p.block ≠ g) : ∀ (l : List Value) (k : Nat) (w : World), setL g k l (w.setCell p v) = (setL g k l w).setCell p v
  | [], _, _ => rfl
  | u :: l, k, w => by
    rw [setL, setL, setCell_comm w p ⟨g, k, none⟩ v u h]
    exact setL_comm g p v h l (k + 1) _
def zR : RV := .node 0 zeroT none 0 []
theorem setL_block {R : Nat} (l : List Value) (k : Nat) (W : World) (b : Nat) (hb : b ≠ R) : (setL R k l W).heap[b]? = W.heap[b]? := by
  by_cases hlt : b < W.heap.size
  · exact (setL_butR R l k W).block b hlt hb
  · rw [Array.getElem?_eq_none (by rw [setL_heap]; omega), Array.getElem?_eq_none (by omega)]
theorem keeps_setL (g : Nat) : ∀ (l : List Value) (k : Nat) (W : World), KeepsOthers W (setL g k l W)
  | [], _, W => KeepsOthers.refl W
  | v :: l, k, W => (KeepsOthers.setCell W ⟨g, k, none⟩ v).trans (keeps_setL g l (k + 1) _)
/-- the rich dependencies that are put down so far -/
structure OutR (base ob : Nat) (l : List RV) (W : World) : Prop where
  row : ∃ v, W.cell? ⟨ob, 0, none⟩ = some v ∧ ROwnF base l v W
  fz : W.frozen? ⟨ob, 0, none⟩ = false
  hz : ob < base ∧ base ≤ W.heap.size
theorem OutR.then {base ob : Nat} {l : List RV} {W W' : World} (h : OutR base ob l W) (hb : Below W.heap.size W W') : OutR base ob l W' := by
  obtain ⟨v, h1, h2⟩ := h.row
  have hl := World.block_lt_of_cell? W _ h1
  have hz := h.hz
  exact ⟨⟨v, (hb.cell hl).trans h1, h2.butR (R := 0) (.of hb) (by omega)⟩, (hb.frozen hl).trans h.fz, h.hz.1, Nat.le_trans h.hz.2 hb.size⟩
theorem TQF.kept {Q : Nat → Prop} {Q' : Nat → Prop} {W W' : World} {row : Option Nat} {t : RV} (h : TQF Q W t) (hQ : ∀ b, Q b → Q' b) (hg : W.grownBy W' row) (hr : ∀ r, row = some r → ∃ o : Obj, W.heap[r]? = some o ∧ o.isCells = false) : TQF Q' W' t := by
  unfold TQF at *
  induction h with
  | mk h1 h2 h3 h4 _ ih =>
    refine .mk h1 h2 h3 (fun k hk => ?_) ih
    obtain ⟨b, o, e, q, hc⟩ := h4 k hk
    obtain ⟨ob, ho, hco⟩ := cells_of_cell (hc 0 _ rfl)
    have hb : W'.heap[b]? = W.heap[b]? := grownBy_keeps_cells hg hr ho hco
    exact ⟨b, o, e, ⟨hQ b q.1, q.2.keep hb⟩, fun j u hu => (World.cell?_of_block (w := W) hb).trans (hc j u hu)⟩
theorem ROwnF.kept {base : Nat} {l : List RV} {v : Value} {W W' : World} {row : Option Nat} (h : ROwnF base l v W) (hg : W.grownBy W' row) (hr : ∀ r, row = some r → ∃ o : Obj, W.heap[r]? = some o ∧ o.isCells = false) : ROwnF base l v W' := by
  refine ⟨?_, fun a ha => (h.tr a ha).kept (fun b hq => ⟨hq.1, Nat.lt_of_lt_of_le hq.2.1 hg.size, hq.2.2⟩) hg hr⟩
  have h2 := h.own
  refine World.ownsRow.kept h2 hg ?_
  cases e : v.ownBlock with
  | none => exact .inl rfl
  | some g =>
    right
    intro e2
    obtain ⟨o, ho, hc⟩ := hr g e2.symm
    rcases h2.2 with ⟨rfl, _⟩ | ⟨g2, cap, cur, rfl, _, hgb, _⟩
    · simp [Value.ownBlock] at e
    · obtain rfl : g2 = g := by simpa [Value.ownBlock] using e
      rw [hgb] at ho; cases ho; cases hc
/-- where All stands, within its range -/
structure AllI (w : World) (base : Nat) (T : List RT) (n : Nat) (W : World) : Prop where
  ex : ∃ l, treeL l = T ∧ l.length ≤ n ∧ OutR base (w.heap.size + 1) l W
  old : Below w.heap.size w W
theorem AllI.own {w : World} {base B : Nat} {β : Type} (f : β → List RT) (g : β → Nat) (hB : w.heap.size ≤ B) : OwnFrom B (fun (s : β) W => AllI w base (f s) (g s) W) := fun s A C row hs hg hr => by
  obtain ⟨l, h1, h2, h3⟩ := hs.ex
  obtain ⟨v, k1, k2⟩ := h3.row
  refine ⟨⟨l, h1, h2, ⟨v, cell_kept k1 hg fun r e => (hr r e).2, k2.kept hg fun r e => (hr r e).2⟩, (frozen_kept k1 hg fun r e => (hr r e).2).trans h3.fz, h3.hz.1, Nat.le_trans h3.hz.2 hg.size⟩, hs.old.trans ((Below.refl _ A).grown hg hs.old.size (fun j e => Nat.le_trans hB (hr j e).1))⟩
theorem AllI.then {w W W' : World} {base : Nat} {T : List RT} {n : Nat} (h : AllI w base T n W) (hb : Below W.heap.size W W') : AllI w base T n W' := by
  obtain ⟨l, h1, h2, h3⟩ := h.ex
  exact ⟨⟨l, h1, h2, h3.then hb⟩, h.old.trans (hb.mono h.old.size)⟩
/-- an element is appended, written, and the row put into its box -/
theorem OutR.fin {base ob g c2 : Nat} {l : List RV} {V U w6 : World} {v : Value} {rv : RV} (hz : ob < base ∧ base ≤ V.heap.size) (hf : V.frozen? ⟨ob, 0, none⟩ = false) (hc : V.cell? ⟨ob, 0, none⟩ = some v) (ho : ROwnF base l v V)
    (hU : Below V.heap.size V U) (hT : TQF (fun b => V.heap.size ≤ b ∧ b < U.heap.size) U rv)
    (hg : U.grownBy w6 v.ownBlock) (hat : some g = v.ownBlock ∨ g = U.heap.size) (ho' : Own encR 7 base 39 (.slice (some ⟨g, 0, none⟩) (l.length + 1) c2) (l ++ [zR]) w6) :
    OutR base ob (l ++ [rv]) ((setL g (l.length * 7) (encR rv) w6).setCell ⟨ob, 0, none⟩ (.slice (some ⟨g, 0, none⟩) (l.length + 1) c2)) ∧ ob ≠ g ∧ w6.cell? ⟨ob, 0, none⟩ = some v ∧ w6.frozen? ⟨ob, 0, none⟩ = false ∧
    KeepsOthers V ((setL g (l.length * 7) (encR rv) w6).setCell ⟨ob, 0, none⟩ (.slice (some ⟨g, 0, none⟩) (l.length + 1) c2)) ∧
    Below ob V ((setL g (l.length * 7) (encR rv) w6).setCell ⟨ob, 0, none⟩ (.slice (some ⟨g, 0, none⟩) (l.length + 1) c2)) ∧
    (∀ b, b < V.heap.size → b ≠ ob → v.ownBlock ≠ some b → ((setL g (l.length * 7) (encR rv) w6).setCell ⟨ob, 0, none⟩ (.slice (some ⟨g, 0, none⟩) (l.length + 1) c2)).heap[b]? = V.heap[b]?) := by
  have hr : ∀ j, v.ownBlock = some j → base ≤ j ∧ j < V.heap.size := fun j e => World.ownsRow.lt ho.own j e
  have hl := World.block_lt_of_cell? V _ hc
  have hUs := hU.size
  have hgs := hg.size
  have hg6 := World.ownsRow.lt ho' g rfl
  have hne : ob ≠ g := by omega
  have hnr : v.ownBlock ≠ some ob := fun e => by have := hr _ e; omega
  have hb6 : ∀ b, b < U.heap.size → v.ownBlock ≠ some b → w6.heap[b]? = U.heap[b]? := fun b h1 h2 => hg.block b h1 (fun e => h2 e.symm)
  have hbV : ∀ b, b < V.heap.size → v.ownBlock ≠ some b → w6.heap[b]? = V.heap[b]? := fun b h1 h2 => (hb6 b (by omega) h2).trans (hU.block b h1)
  have hS := own_set ho' encR_len (j := l.length) (by simp) rv
  rw [show (l ++ [zR]).set l.length rv = l ++ [rv] by simp] at hS
  have hsb : ∀ b, b ≠ g → b ≠ ob → ((setL g (l.length * 7) (encR rv) w6).setCell ⟨ob, 0, none⟩ (.slice (some ⟨g, 0, none⟩) (l.length + 1) c2)).heap[b]? = w6.heap[b]? := fun b h1 h2 => (Below.heap_setCell _ _ _ _ h2).trans (setL_block _ _ _ _ h1)
  have hzz : ((setL g (l.length * 7) (encR rv) w6).setCell ⟨ob, 0, none⟩ (.slice (some ⟨g, 0, none⟩) (l.length + 1) c2)).heap.size = w6.heap.size := by simp [World.setCell, setL_heap]
  have c6 : w6.cell? ⟨ob, 0, none⟩ = some v := (World.cell?_of_block (w := V) (hbV ob hl hnr)).trans hc
  have f6 : w6.frozen? ⟨ob, 0, none⟩ = false := (World.frozen?_of_block (w := V) (hbV ob hl hnr)).trans hf
  have hQ : ∀ b, b < V.heap.size → v.ownBlock ≠ some b → g ≠ b := fun b h1 h2 e => by
    rcases hat with h | h
    · exact h2 (by rw [← h, e])
    · omega
  refine ⟨⟨⟨_, sc_same (u := v) ?_, ?_, ?_⟩, ?_, hz.1, by rw [hzz]; omega⟩, hne, c6, f6, ?_, ?_, fun b h1 h2 h3 => (hsb b (fun e => hQ b h1 h3 e.symm) h2).trans (hbV b h1 h3)⟩
  · exact (World.cell?_of_block (w := w6) (setL_block _ _ _ _ hne)).trans c6
  · have := World.ownsRow.kept hS (grownBy_setCell' (setL g (l.length * 7) (encR rv) w6) ob (.slice (some ⟨g, 0, none⟩) (l.length + 1) c2)) (.inr (fun e => hne (by simpa [Value.ownBlock] using e.symm)))
    exact this
  · intro a ha
    rcases List.mem_append.1 ha with ha | ha
    · refine (ho.tr a ha).keep (fun b hq => ⟨hq.1, by rw [hzz]; omega, fun e => hQ b hq.2.1 hq.2.2 (by simpa [Value.ownBlock] using e)⟩) fun b hq => (hsb b (fun e => hQ b hq.2.1 hq.2.2 e.symm) (by omega)).trans (hbV b hq.2.1 hq.2.2)
    · simp at ha; subst ha
      have hvn : ∀ b, V.heap.size ≤ b → v.ownBlock ≠ some b := fun b h e => by have := hr _ e; omega
      have hgn : ∀ b, V.heap.size ≤ b → b < U.heap.size → g ≠ b := fun b h1 h2 e => by
        rcases hat with h | h
        · have := hr g h.symm; omega
        · omega
      refine hT.keep (fun b hq => ⟨by omega, by rw [hzz]; omega, fun e => hgn b hq.1 hq.2 (by simpa [Value.ownBlock] using e)⟩) fun b hq => (hsb b (fun e => hgn b hq.1 hq.2 e.symm) (by omega)).trans (hb6 b hq.2 (hvn b hq.1))
  · rw [World.frozen?_setCell]
    exact (World.frozen?_of_block (w := w6) (setL_block _ _ _ _ hne)).trans f6
  · have kU : KeepsOthers V U := KeepsOthers.of_grownBy (grown_below hU) (fun _ _ h => by cases h)
    have k6 : KeepsOthers U w6 := KeepsOthers.of_grownBy hg fun j o ej hj => by
      rcases ho.own.2 with ⟨rfl, _⟩ | ⟨g3, cap, cur, rfl, _, hgb, _⟩
      · simp [Value.ownBlock] at ej
      · obtain rfl : g3 = j := by simpa [Value.ownBlock] using ej
        rw [hU.block g3 (hr g3 rfl).2, hgb] at hj; cases hj; rfl
    exact (kU.trans k6).trans ((keeps_setL g _ _ w6).trans (KeepsOthers.setCell _ _ _))
  · have b1 : Below ob V U := hU.mono (by omega)
    have b2 : Below ob V w6 := b1.grown hg (by omega) (fun j e => by have := hr j e; omega)
    exact (b2.trans (setL_below (by omega) _ _ _)).setCell (p := ⟨ob, 0, none⟩) (Nat.le_refl _) _
end Go.Proofs.YteobmfpbgnmffaaGreatDoor
