/- RichCopy -/
import Derived.Test.YtcpjignlhlcnpaaDoorPkgNamesRowG23
import Derived.Test.YtcpjignlhlcnpaaDoorPkgNamesRowG19
set_option linter.unusedSimpArgs false
set_option linter.unusedVariables false
/- Walk: a rich dependency in new memory (chandleryref08.Copy). -/



namespace Go.Proofs.YtcpjignlhlcnpaaDoor
open Go.RowKit Go.Shelf
set_option linter.unusedVariables false

/-- where Copy stands: what was copied so far -/
structure Cp (w : World) (t : RV) (l : List RV) (v : Value) (wr : World) : Prop where
  old : Below w.heap.size w wr
  inp : Box7 w.heap.size (.int .u8 t.kind) (.string (bs t.dep.name)) (.int .u8 t.dep.op) (.int .i64 t.dep.evr.epoch) (.string (bs t.dep.evr.ver)) (.string (bs t.dep.evr.rel)) (.slice t.addr t.args.length t.cap) wr
  res : zBox (w.heap.size + 1) wr
  out : Box7 (w.heap.size + 2) (.int .u8 t.kind) (.string (bs t.dep.name)) (.int .u8 t.dep.op) (.int .i64 t.dep.evr.epoch) (.string (bs t.dep.evr.ver)) (.string (bs t.dep.evr.rel)) v wr
  own : Own encR 7 (w.heap.size + 3) 28 v l wr
  tr : ∀ a ∈ l, TQ (fun b => w.heap.size + 3 ≤ b ∧ b < wr.heap.size ∧ v.ownBlock ≠ some b) wr a
section
variable {w wr w' : World} {t : RV} {l : List RV} {v : Value}
theorem Cp.call (h : Cp w t l v wr) (hb : Below wr.heap.size wr w') : Cp w t l v w' where
  old := h.old.trans (hb.mono h.old.size)
  inp := h.inp.past (hb.mono h.inp.2.2)
  res := h.res.past (hb.mono h.res.2.2)
  out := h.out.past (hb.mono h.out.2.2)
  own := by
    have ho := h.own
    unfold Own at *
    refine ⟨ho.1, ?_⟩
    rcases ho.2 with h2 | ⟨g, cap, cur, hv, hg, hh, r⟩
    · exact .inl h2
    · have hl : g < wr.heap.size := (Array.getElem?_eq_some_iff.1 hh).1
      exact .inr ⟨g, cap, cur, hv, hg, by rw [hb.block g hl]; exact hh, r⟩
  tr := fun a ha => (h.tr a ha).keep (fun b hq => ⟨hq.1, Nat.lt_of_lt_of_le hq.2.1 hb.size, hq.2.2⟩) fun b hq => hb.block b hq.2.1
theorem Cp.held {w6 : World} {cs : Obj} (h : Cp w t l v wr) (hg : (wr.alloc cs).grownBy w6 v.ownBlock) : w6.cell? ⟨w.heap.size + 2, 6, none⟩ = some v ∧ w6.frozen? ⟨w.heap.size + 2, 6, none⟩ = false ∧ w.heap.size + 2 < w6.heap.size := by
  have hm2 := h.out.2.2
  have hb : w6.heap[w.heap.size + 2]? = wr.heap[w.heap.size + 2]? := (hg.block (w.heap.size + 2) (by simp; omega) (fun e => by have := (World.ownsRow.lt h.own _ e.symm).1; omega)).trans (Below.heap_alloc _ _ _ hm2)
  have hz := hg.size
  refine ⟨(World.cell?_of_block (w := wr) (a := ⟨w.heap.size + 2, 6, none⟩) hb).trans h.out.1.2.2.2.2.2.2, (World.frozen?_of_block (w := wr) (a := ⟨w.heap.size + 2, 6, none⟩) hb).trans h.out.2.1.2.2.2.2.2.2, by simp at hz; omega⟩
/-- a copy more -/
theorem Cp.arg {rv : RV} {w6 : World} {v' : Value} {cs : Obj} (h : Cp w t l v wr) (hT : TQ (fun b => w'.heap.size ≤ b ∧ b < wr.heap.size) wr rv) (hw : w.heap.size + 3 ≤ w'.heap.size) (hv : ∀ b, v.ownBlock = some b → b < w'.heap.size)
    (ho : w6.ownsRow (w.heap.size + 3) 28 7 v' (l.length + 1) (l.flatMap encR ++ encR rv)) (hg : (wr.alloc cs).grownBy w6 v.ownBlock) (hv' : v'.ownBlock = v.ownBlock ∨ v'.ownBlock = some (wr.alloc cs).heap.size) : Cp w t (l ++ [rv]) v' (w6.setCell ⟨w.heap.size + 2, 6, none⟩ v') := by
  have hm2 := h.out.2.2
  have hsz : wr.heap.size + 1 = (wr.alloc cs).heap.size := by simp
  have hr : ∀ q, v.ownBlock = some q → w.heap.size + 3 ≤ q := fun q e => (World.ownsRow.lt h.own q e).1
  have hG : ∀ {B : Nat}, B ≤ w.heap.size + 3 → Below B (wr.alloc cs) w6 := fun hB => (Below.refl _ _).grown hg (by omega) (fun k e => Nat.le_trans hB (hr k e))
  have hA : ∀ {B : Nat}, B ≤ w.heap.size + 3 → Below B wr w6 := fun hB => ((Below.refl _ _).alloc (by omega) cs).trans (hG hB)
  have hblk : ∀ b, b < wr.heap.size → v.ownBlock ≠ some b → w6.heap[b]? = wr.heap[b]? := fun b hb hne => (hg.block b (by omega) (fun e => hne e.symm)).trans (Below.heap_alloc _ _ _ hb)
  have hset : ∀ b, b ≠ w.heap.size + 2 → (w6.setCell ⟨w.heap.size + 2, 6, none⟩ v').heap[b]? = w6.heap[b]? := fun b hb => Below.heap_setCell _ _ _ _ hb
  have hzs : (w6.setCell ⟨w.heap.size + 2, 6, none⟩ v').heap.size = w6.heap.size := by simp [World.setCell]
  have hz6 := hg.size
  have hz0 := h.old.size
  have hS : ∀ {B : Nat}, B ≤ w.heap.size + 2 → Below B wr (w6.setCell ⟨w.heap.size + 2, 6, none⟩ v') := fun hB => (hA (by omega)).setCell (p := ⟨w.heap.size + 2, 6, none⟩) hB v'
  have hQ : ∀ b, b < wr.heap.size → v.ownBlock ≠ some b → v'.ownBlock ≠ some b := fun b hb hne => by
    rcases hv' with e | e
    · rw [e]; exact hne
    · rw [e]; simp; omega
  have haway : v'.ownBlock ≠ some (w.heap.size + 2) := hQ _ hm2 (fun e => by have := hr _ e; omega)
  refine ⟨h.old.trans (hS (by omega)), h.inp.past (hS (by omega)), h.res.past (hS (by omega)), box7_set6 (h.out.past (hA (by omega))) v', ownsRow_setCell_other (Own.snoc ho) (a := ⟨w.heap.size + 2, 6, none⟩) haway v', ?_⟩
  intro a ha
  rcases List.mem_append.1 ha with ha | ha
  · exact (h.tr a ha).keep (fun b hq => ⟨hq.1, by omega, hQ b hq.2.1 hq.2.2⟩) fun b hq => (hset b (by omega)).trans (hblk b hq.2.1 hq.2.2)
  · simp at ha; subst ha
    exact hT.keep (fun b hq => ⟨by omega, by omega, hQ b hq.2 (fun e => by have := hv b e; omega)⟩) fun b hq => (hset b (by omega)).trans (hblk b hq.2 (fun e => by have := hv b e; omega))
end
/-- what Copy leaves: a tree alike, its row the call's own, and nothing of what is below in that row's block -/
def CopyPost (t : RV) (w : World) (e : Ending) (w' : World) : Prop :=
  ∃ (A : Option Addr) (c : Nat) (l : List RV), e = .returned (RV.node t.kind t.dep A c l).val ∧ treeL l = treeL t.args ∧ Own encR 7 w.heap.size 28 (.slice A l.length c) l w' ∧
    (∀ a ∈ l, TQ (fun b => w.heap.size ≤ b ∧ b < w'.heap.size ∧ (Value.slice A l.length c).ownBlock ≠ some b) w' a) ∧ Below w.heap.size w w'
theorem own_keep {α : Type} {enc : α → List Value} {size base base' : Nat} {e : TypeId} {v : Value} {l : List α} {w w' : World} (h : Own enc size base e v l w) (hb : base' ≤ base) (hk : ∀ g, v.ownBlock = some g → w'.heap[g]? = w.heap[g]?) : Own enc size base' e v l w' := by
  unfold Own at *
  refine ⟨h.1, ?_⟩
  rcases h.2 with h2 | ⟨g, cap, cur, hv, hg, hh, r⟩
  · exact .inl h2
  · exact .inr ⟨g, cap, cur, hv, by omega, by rw [hk g (by rw [hv]; rfl)]; exact hh, r⟩
theorem CopyPost.tq {t : RV} {w w' : World} {e : Ending} (hd : t.dep.wf) (h : CopyPost t w e w') : ∃ rv : RV, e = .returned rv.val ∧ rv.tree = t.tree ∧ TQ (fun b => w.heap.size ≤ b ∧ b < w'.heap.size) w' rv ∧ Below w.heap.size w w' := by
  obtain ⟨A, c, l, he, ht, ho, hs, hb⟩ := h
  refine ⟨_, he, by rw [tree_parts t]; simp only [RV.tree]; rw [ht], ?_, hb⟩
  obtain ⟨A', c', hv, hr⟩ := ho.rd encR_len
  cases hv
  refine .mk hd hr.1 hr.2.1 (fun k hk => ?_) fun a ha => (hs a ha).keep (fun b hq => ⟨hq.1, hq.2.1⟩) fun _ _ => rfl
  obtain ⟨b, off, e', hlt, hc⟩ := hr.2.2 k hk
  have e2 : A = some ⟨b, off, none⟩ := e'
  exact ⟨b, off, e', ⟨(World.ownsRow.lt ho b (by rw [e2]; rfl)).1, hlt⟩, hc⟩
theorem Cp.start {w : World} {t : RV} : Cp w t [] (.slice none 0 0) (((w.alloc (.cells #[.int .u8 t.kind, .string (bs t.dep.name), .int .u8 t.dep.op, .int .i64 t.dep.evr.epoch, .string (bs t.dep.evr.ver), .string (bs t.dep.evr.rel), .slice t.addr t.args.length t.cap] 28)).alloc (.cells #[.int .u8 0, .string ⟨#[]⟩, .int .u8 0, .int .i64 0, .string ⟨#[]⟩, .string ⟨#[]⟩, .slice none 0 0] 28)).alloc (.cells #[.int .u8 t.kind, .string (bs t.dep.name), .int .u8 t.dep.op, .int .i64 t.dep.evr.epoch, .string (bs t.dep.evr.ver), .string (bs t.dep.evr.rel), .slice none 0 0] 28)) := by
  generalize hO1 : (.cells #[.int .u8 t.kind, .string (bs t.dep.name), .int .u8 t.dep.op, .int .i64 t.dep.evr.epoch, .string (bs t.dep.evr.ver), .string (bs t.dep.evr.rel), .slice t.addr t.args.length t.cap] 28 : Obj) = o1
  generalize hO2 : (.cells #[.int .u8 0, .string ⟨#[]⟩, .int .u8 0, .int .i64 0, .string ⟨#[]⟩, .string ⟨#[]⟩, .slice none 0 0] 28 : Obj) = o2
  generalize hO3 : (.cells #[.int .u8 t.kind, .string (bs t.dep.name), .int .u8 t.dep.op, .int .i64 t.dep.evr.epoch, .string (bs t.dep.evr.ver), .string (bs t.dep.evr.rel), .slice none 0 0] 28 : Obj) = o3
  have z1 : (w.alloc o1).heap.size = w.heap.size + 1 := by simp
  have z2 : ((w.alloc o1).alloc o2).heap.size = w.heap.size + 2 := by simp
  have b1 : ∀ {B : Nat}, B ≤ w.heap.size → Below B w (w.alloc o1) := fun hB => (Below.refl _ _).alloc hB _
  have b2 : ∀ {B : Nat}, B ≤ w.heap.size + 1 → Below B (w.alloc o1) ((w.alloc o1).alloc o2) := fun hB => (Below.refl _ _).alloc (by omega) _
  have b3 : ∀ {B : Nat}, B ≤ w.heap.size + 2 → Below B ((w.alloc o1).alloc o2) (((w.alloc o1).alloc o2).alloc o3) := fun hB => (Below.refl _ _).alloc (by omega) _
  refine ⟨(b1 (Nat.le_refl _)).trans ((b2 (by omega)).trans (b3 (by omega))), ?_, ?_, ?_, Own.nil_ _ _ _, fun a ha => by simp at ha⟩
  · have h := Box7.new w (.int .u8 t.kind) (.string (bs t.dep.name)) (.int .u8 t.dep.op) (.int .i64 t.dep.evr.epoch) (.string (bs t.dep.evr.ver)) (.string (bs t.dep.evr.rel)) (.slice t.addr t.args.length t.cap) 28
    rw [hO1] at h
    exact (h.past (b2 (by omega))).past (b3 (by omega))
  · have h := Box7.new (w.alloc o1) (.int .u8 0) (.string ⟨#[]⟩) (.int .u8 0) (.int .i64 0) (.string ⟨#[]⟩) (.string ⟨#[]⟩) (.slice none 0 0) 28
    rw [hO2, z1] at h
    exact h.past (b3 (by omega))
  · have h := Box7.new ((w.alloc o1).alloc o2) (.int .u8 t.kind) (.string (bs t.dep.name)) (.int .u8 t.dep.op) (.int .i64 t.dep.evr.epoch) (.string (bs t.dep.evr.ver)) (.string (bs t.dep.evr.rel)) (.slice none 0 0) 28
    rw [hO3, z2] at h
    exact h
end Go.Proofs.YtcpjignlhlcnpaaDoor
