/- RichBracket -/
import Derived.Test.YtnfagaccbkeikaaGreatDoorRichReadsRowG27
import Derived.Deep.RegionLaw
/- Walks: all that is no plain dependency is read (rich.reader's bracket). -/



namespace Go.Proofs.YtnfagaccbkeikaaGreatDoor
open Go.RowKit Go.Shelf
set_option linter.unusedVariables false

theorem encR_len (t : RV) : (encR t).length = 7 := rfl
theorem encR_one (t : RV) : ∀ u ∈ encR t, u.oneCell' = true := by
  intro u hu
  simp only [encR, List.mem_cons, List.not_mem_nil, or_false] at hu
  rcases hu with rfl | rfl | rfl | rfl | rfl | rfl | rfl <;> rfl
def zBox (m : Nat) (W : World) : Prop := Box7 m (.int .u8 0) (.string ⟨#[]⟩) (.int .u8 0) (.int .i64 0) (.string ⟨#[]⟩) (.string ⟨#[]⟩) (.slice none 0 0) W
/-- where bracket stands: what is open, what was gathered -/
structure Br (w0 : World) (R e o m m2 : Nat) (W : World) (k : Int) (l : List RV) (v : Value) (ws : List Tok) (n : Nat) (wr : World) : Prop where
  but : ButR R W wr
  res : zBox m wr
  out : Box7 m2 (.int .u8 k) (.string ⟨#[]⟩) (.int .u8 0) (.int .i64 0) (.string ⟨#[]⟩) (.string ⟨#[]⟩) v wr
  own : Own encR 7 (m + 1) 29 v l wr
  away : v.ownBlock ≠ some m2
  tr : ∀ t ∈ l, TQ (fun b => m + 1 ≤ b ∧ b < wr.heap.size ∧ v.ownBlock ≠ some b ∧ b ≠ m2) wr t
  st : ∃ A c, St w0 R e ws n (o + 1) A c wr
  lt : R < m ∧ m < m2 ∧ m = W.heap.size
section
variable {w0 W wr w' : World} {R e o m m2 n n' : Nat} {k k' : Int} {l : List RV} {v : Value} {ws ws' : List Tok}
theorem Br.call (h : Br w0 R e o m m2 W k l v ws n wr) (hb : ButR R wr w') (hS : ∃ A c, St w0 R e ws' n' (o + 1) A c w') : Br w0 R e o m m2 W k l v ws' n' w' where
  but := h.but.trans hb
  res := h.res.butR hb (by have := h.lt; omega)
  out := h.out.butR hb (by have := h.lt; omega)
  own := h.own.butR hb (by have := h.lt; omega)
  away := h.away
  tr := fun t ht => (h.tr t ht).keep (fun b hq => ⟨hq.1, Nat.lt_of_lt_of_le hq.2.1 hb.size, hq.2.2⟩) fun b hq => hb.block b hq.2.1 (by have := h.lt; have := hq.1; omega)
  st := hS
  lt := h.lt
theorem box7_set0 {a0 a1 a2 a3 a4 a5 a6 : Value} (h : Box7 m a0 a1 a2 a3 a4 a5 a6 W) (u : Value) : Box7 m u a1 a2 a3 a4 a5 a6 (W.setCell ⟨m, 0, none⟩ u) := by
  obtain ⟨⟨h0, h1, h2, h3, h4, h5, h6⟩, ⟨f0, f1, f2, f3, f4, f5, f6⟩, hl⟩ := h
  unfold Box7
  refine ⟨⟨?_, ?_, ?_, ?_, ?_, ?_, ?_⟩, ⟨?_, ?_, ?_, ?_, ?_, ?_, ?_⟩, by simpa [World.setCell] using hl⟩
  all_goals simp [go_sem, h0, h1, h2, h3, h4, h5, h6, f0, f1, f2, f3, f4, f5, f6]
theorem box7_set6 {a0 a1 a2 a3 a4 a5 a6 : Value} (h : Box7 m a0 a1 a2 a3 a4 a5 a6 W) (u : Value) : Box7 m a0 a1 a2 a3 a4 a5 u (W.setCell ⟨m, 6, none⟩ u) := by
  obtain ⟨⟨h0, h1, h2, h3, h4, h5, h6⟩, ⟨f0, f1, f2, f3, f4, f5, f6⟩, hl⟩ := h
  unfold Box7
  refine ⟨⟨?_, ?_, ?_, ?_, ?_, ?_, ?_⟩, ⟨?_, ?_, ?_, ?_, ?_, ?_, ?_⟩, by simpa [World.setCell] using hl⟩
  all_goals simp [go_sem, h0, h1, h2, h3, h4, h5, h6, f0, f1, f2, f3, f4, f5, f6]
/-- what a store into the block m2 leaves -/
theorem Br.setOut (h : Br w0 R e o m m2 W k l v ws n wr) (i : Nat) (u : Value) : ButR R W (wr.setCell ⟨m2, i, none⟩ u) ∧ zBox m (wr.setCell ⟨m2, i, none⟩ u) ∧ Own encR 7 (m + 1) 29 v l (wr.setCell ⟨m2, i, none⟩ u) ∧
    (∀ t ∈ l, TQ (fun b => m + 1 ≤ b ∧ b < (wr.setCell ⟨m2, i, none⟩ u).heap.size ∧ v.ownBlock ≠ some b ∧ b ≠ m2) (wr.setCell ⟨m2, i, none⟩ u) t) ∧ ∃ A c, St w0 R e ws n (o + 1) A c (wr.setCell ⟨m2, i, none⟩ u) := by
  have hlt := h.lt
  obtain ⟨A, c, hS⟩ := h.st
  refine ⟨h.but.setNew (p := ⟨m2, i, none⟩) (by show W.heap.size ≤ m2; omega) u, h.res.past ((Below.refl _ _).setCell (p := ⟨m2, i, none⟩) (by show m + 1 ≤ m2; omega) u), ownsRow_setCell_other h.own (a := ⟨m2, i, none⟩) h.away u, fun t ht => (h.tr t ht).keep (fun b hq => ⟨hq.1, by simpa [World.setCell] using hq.2.1, hq.2.2⟩) fun b hq => Below.heap_setCell _ _ _ _ hq.2.2.2, A, c, hS.past ((Below.refl _ _).setCell (p := ⟨m2, i, none⟩) (by show R + 1 ≤ m2; omega) u)⟩
theorem Br.kind (h : Br w0 R e o m m2 W k l v ws n wr) (k' : Int) : Br w0 R e o m m2 W k' l v ws n (wr.setCell ⟨m2, 0, none⟩ (.int .u8 k')) := by
  obtain ⟨h1, h2, h3, h4, h5⟩ := h.setOut 0 (.int .u8 k')
  exact ⟨h1, h2, box7_set0 h.out _, h3, h.away, h4, h5, h.lt⟩
/-- a part more was read: what the row and the struct are then -/
theorem Br.arg {rv : RV} {w6 : World} {v' : Value} {cs : Obj} (h : Br w0 R e o m m2 W k l v ws n wr) (hT : TQ (fun b => w'.heap.size ≤ b ∧ b < wr.heap.size) wr rv) (hw : m2 < w'.heap.size) (hv : ∀ b, v.ownBlock = some b → b < w'.heap.size) (ho : w6.ownsRow (m + 1) 29 7 v' (l.length + 1) (l.flatMap encR ++ encR rv)) (hg : (wr.alloc cs).grownBy w6 v.ownBlock) (hv' : v'.ownBlock = v.ownBlock ∨ v'.ownBlock = some (wr.alloc cs).heap.size) :
    Br w0 R e o m m2 W k (l ++ [rv]) v' ws n (w6.setCell ⟨m2, 6, none⟩ v') := by
  have hlt := h.lt
  have hm2 := h.out.2.2
  have hr : ∀ q, v.ownBlock = some q → m + 1 ≤ q := fun q e => (World.ownsRow.lt h.own q e).1
  have hsz : wr.heap.size + 1 = (wr.alloc cs).heap.size := by simp
  have hG : ∀ {B : Nat}, B ≤ m + 1 → Below B (wr.alloc cs) w6 := fun hB => (Below.refl _ _).grown hg (by omega) (fun k e => Nat.le_trans hB (hr k e))
  have hblk : ∀ b, b < wr.heap.size → v.ownBlock ≠ some b → w6.heap[b]? = wr.heap[b]? := fun b hb hne => (hg.block b (by omega) (fun e => hne e.symm)).trans (Below.heap_alloc _ _ _ hb)
  have haway : v'.ownBlock ≠ some m2 := by
    rcases hv' with e | e
    · rw [e]; exact h.away
    · rw [e]; simp; omega
  have hm2b : w6.heap[m2]? = wr.heap[m2]? := hblk m2 hm2 h.away
  have hz6 := hg.size
  have hQ : ∀ b, b < wr.heap.size → v.ownBlock ≠ some b → v'.ownBlock ≠ some b := fun b hb hne => by
    rcases hv' with e | e
    · rw [e]; exact hne
    · rw [e]; simp; omega
  obtain ⟨A, c, hS⟩ := h.st
  have hout : Box7 m2 (.int .u8 k) (.string ⟨#[]⟩) (.int .u8 0) (.int .i64 0) (.string ⟨#[]⟩) (.string ⟨#[]⟩) v w6 := by
    have hc : ∀ i, w6.cell? ⟨m2, i, none⟩ = wr.cell? ⟨m2, i, none⟩ := fun i => World.cell?_of_block (w := wr) hm2b
    have hf : ∀ i, w6.frozen? ⟨m2, i, none⟩ = wr.frozen? ⟨m2, i, none⟩ := fun i => World.frozen?_of_block (w := wr) hm2b
    obtain ⟨⟨h0, h1, h2, h3, h4, h5, h6⟩, ⟨f0, f1, f2, f3, f4, f5, f6⟩, hl⟩ := h.out
    exact ⟨⟨(hc 0).trans h0, (hc 1).trans h1, (hc 2).trans h2, (hc 3).trans h3, (hc 4).trans h4, (hc 5).trans h5, (hc 6).trans h6⟩, ⟨(hf 0).trans f0, (hf 1).trans f1, (hf 2).trans f2, (hf 3).trans f3, (hf 4).trans f4, (hf 5).trans f5, (hf 6).trans f6⟩, by omega⟩
  have hset : ∀ b, b ≠ m2 → (w6.setCell ⟨m2, 6, none⟩ v').heap[b]? = w6.heap[b]? := fun b hb => Below.heap_setCell _ _ _ _ hb
  have hzs : (w6.setCell ⟨m2, 6, none⟩ v').heap.size = w6.heap.size := by simp [World.setCell]
  refine ⟨((h.but.alloc _).grown hg (fun q e => by have := hr q e; omega)).setNew (p := ⟨m2, 6, none⟩) (by show W.heap.size ≤ m2; omega) _, ?_, box7_set6 hout v', ?_, haway, ?_, ⟨A, c, ?_⟩, hlt⟩
  · exact ((h.res.butR ((ButR.refl R _).alloc cs) (by omega)).past (hG (Nat.le_refl _))).past ((Below.refl _ _).setCell (p := ⟨m2, 6, none⟩) (by show m + 1 ≤ m2; omega) v')
  · exact ownsRow_setCell_other (Own.snoc ho) (a := ⟨m2, 6, none⟩) haway v'
  · intro t ht
    rcases List.mem_append.1 ht with ht | ht
    · exact (h.tr t ht).keep (fun b hq => ⟨hq.1, by omega, hQ b hq.2.1 hq.2.2.1, hq.2.2.2⟩) fun b hq => (hset b hq.2.2.2).trans (hblk b hq.2.1 hq.2.2.1)
    · simp at ht; subst ht
      exact hT.keep (fun b hq => ⟨by omega, by omega, hQ b hq.2 (fun e => by have := hv b e; omega), by omega⟩) fun b hq => (hset b (by omega)).trans (hblk b hq.2 (fun e => by have := hv b e; omega))
  · exact ((hS.then ((Below.refl _ _).alloc (Nat.le_refl _) cs)).past (hG (by omega))).past ((Below.refl _ _).setCell (p := ⟨m2, 6, none⟩) (by show R + 1 ≤ m2; omega) v')
theorem Br.held {w6 : World} {cs : Obj} (h : Br w0 R e o m m2 W k l v ws n wr) (hg : (wr.alloc cs).grownBy w6 v.ownBlock) : w6.cell? ⟨m2, 6, none⟩ = some v ∧ w6.frozen? ⟨m2, 6, none⟩ = false ∧ m2 < w6.heap.size := by
  have hm2 := h.out.2.2
  have hb : w6.heap[m2]? = wr.heap[m2]? := (hg.block m2 (by simp; omega) (fun e => h.away e.symm)).trans (Below.heap_alloc _ _ _ hm2)
  have hz := hg.size
  refine ⟨(World.cell?_of_block (w := wr) (a := ⟨m2, 6, none⟩) hb).trans h.out.1.2.2.2.2.2.2, (World.frozen?_of_block (w := wr) (a := ⟨m2, 6, none⟩) hb).trans h.out.2.1.2.2.2.2.2.2, by simp at hz; omega⟩
theorem Br.node {A : Option Addr} {N c : Nat} (h : Br w0 R e o m m2 W k l (.slice A N c) ws n wr) : N = l.length ∧ TQ (fun b => m + 1 ≤ b ∧ b < wr.heap.size) wr (.node k zeroT A c l) := by
  obtain ⟨A', c', hv, hr⟩ := h.own.rd encR_len
  cases hv
  refine ⟨rfl, .mk ⟨Nat.zero_le _, rfl, rfl, Nat.zero_le _, Nat.zero_le _⟩ hr.1 hr.2.1 (fun k hk => ?_) fun t ht => (h.tr t ht).keep (fun b hq => ⟨hq.1, hq.2.1⟩) fun _ _ => rfl⟩
  obtain ⟨b, off, e', hb, hc⟩ := hr.2.2 k hk
  have e2 : A = some ⟨b, off, none⟩ := e'
  exact ⟨b, off, e', ⟨(World.ownsRow.lt h.own b (by rw [e2]; rfl)).1, hb⟩, hc⟩
theorem Br.start {w2 w3 : World} {rv : RV} (B3 : ButR R W w3) (X3 : zBox W.heap.size w3) (hT : TQ (fun b => w2.heap.size ≤ b ∧ b < w3.heap.size) w3 rv) (hz : W.heap.size + 1 ≤ w2.heap.size) (h23 : w2.heap.size ≤ w3.heap.size) (S3 : ∃ A c, St w0 R e ws n (o + 1) A c w3) (hR : R < W.heap.size) :
    Br w0 R e o W.heap.size (w3.heap.size + 1) W 0 [rv] (.slice (some ⟨w3.heap.size, 0, none⟩) 1 1) ws n ((w3.alloc (.cells #[.int .u8 rv.kind, .string (bs rv.dep.name), .int .u8 rv.dep.op, .int .i64 rv.dep.evr.epoch, .string (bs rv.dep.evr.ver), .string (bs rv.dep.evr.rel), .slice rv.addr rv.args.length rv.cap] 29)).alloc (.cells #[.int .u8 0, .string ⟨#[]⟩, .int .u8 0, .int .i64 0, .string ⟨#[]⟩, .string ⟨#[]⟩, .slice (some ⟨w3.heap.size, 0, none⟩) 1 1] 29)) := by
  obtain ⟨A, c, hS⟩ := S3
  have hb : ∀ {B : Nat}, B ≤ w3.heap.size → Below B w3 ((w3.alloc (.cells #[.int .u8 rv.kind, .string (bs rv.dep.name), .int .u8 rv.dep.op, .int .i64 rv.dep.evr.epoch, .string (bs rv.dep.evr.ver), .string (bs rv.dep.evr.rel), .slice rv.addr rv.args.length rv.cap] 29)).alloc (.cells #[.int .u8 0, .string ⟨#[]⟩, .int .u8 0, .int .i64 0, .string ⟨#[]⟩, .string ⟨#[]⟩, .slice (some ⟨w3.heap.size, 0, none⟩) 1 1] 29)) := fun hB => ((Below.refl _ _).alloc hB _).alloc (by simp; omega) _
  refine ⟨(B3.alloc _).alloc _, X3.past (hb (by omega)), ?_, (own_lit w3 rv _ rfl rfl (by omega)).alloc _, by simp [Value.ownBlock], ?_, ⟨A, c, hS.then (hb (Nat.le_refl _))⟩, by omega⟩
  · have := Box7.new (w3.alloc (.cells #[.int .u8 rv.kind, .string (bs rv.dep.name), .int .u8 rv.dep.op, .int .i64 rv.dep.evr.epoch, .string (bs rv.dep.evr.ver), .string (bs rv.dep.evr.rel), .slice rv.addr rv.args.length rv.cap] 29)) (.int .u8 0) (.string ⟨#[]⟩) (.int .u8 0) (.int .i64 0) (.string ⟨#[]⟩) (.string ⟨#[]⟩) (.slice (some ⟨w3.heap.size, 0, none⟩) 1 1) 29
    rw [show (w3.alloc (.cells #[.int .u8 rv.kind, .string (bs rv.dep.name), .int .u8 rv.dep.op, .int .i64 rv.dep.evr.epoch, .string (bs rv.dep.evr.ver), .string (bs rv.dep.evr.rel), .slice rv.addr rv.args.length rv.cap] 29)).heap.size = w3.heap.size + 1 by simp] at this
    exact this
  · intro t ht
    simp at ht; subst ht
    refine hT.keep (fun b hq => ⟨by omega, by simp; omega, ?_, by omega⟩) fun b hq => (hb (Nat.le_refl _)).block b hq.2
    intro hh
    have : some w3.heap.size = some b := hh
    simp at this
    omega
end
end Go.Proofs.YtnfagaccbkeikaaGreatDoor
