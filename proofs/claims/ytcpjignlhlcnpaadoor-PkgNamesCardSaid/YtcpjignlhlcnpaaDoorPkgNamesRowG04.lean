/- VmParts -/
import Derived.Test.YtcpjignlhlcnpaaDoorPkgNamesRowG03
set_option linter.unusedSimpArgs false
set_option linter.unusedVariables false
/- Walks: vercmp.Parts: the parts of any text. -/

namespace Go.Proofs.YtcpjignlhlcnpaaDoor
open Go.RowKit Go.Shelf
attribute [local go_sem] Oper.semAt_some
attribute [local go_sem ↓ high] asked_wide

def encP (x : Prt) : List Value := [.int .u8 x.1, .string (bs x.2)]
def PartsPost (s : ByteArray) (w : World) (e : Ending) (w' : World) : Prop :=
  ∃ v, e = .returned v ∧ Own encP 2 w.heap.size 98 v (pts s.toList) w' ∧ Below w.heap.size w w'

set_option maxHeartbeats 1000000 in
theorem partsv_in (n : Nat) (s : ByteArray) (w : World) :
    CallsIn Fence.wide n Tryd.prog 71 #[.string s] w fun e w' => e = .returned (.func (.func 75) #[] #[.pointer (some ⟨w.heap.size, 0, none⟩)]) ∧ w' = w.alloc (.cells #[.string s] 9) := by
  refine callsIn_of_wp Tryd.func71 rfl trivial ?_ rfl
  simp only [Tryd.ntmps71, List.size_toArray, List.length_cons, List.length_nil, Nat.reduceAdd, Nat.reduceSub, Array.replicate_succ, Array.replicate_zero, List.push_toArray, List.append_toArray, List.nil_append, List.cons_append]
  gi_wp2
  go_ret
  exact ⟨rfl, rfl⟩
theorem kbox_t {Bs : Nat} {A B C : World} (h : KBox Bs A B) (k : KBox Bs B C) : KBox Bs A C := ⟨Eq.trans k.1 h.1, Nat.le_trans h.2 k.2⟩
theorem kbox_b {Bs : Nat} {w : World} (hn : Bs < w.heap.size) (W : World) (l : Nat) (o o' : Obj) (hl : w.heap.size ≤ l) (_ : W.heap[l]? = some o) (_ : o.isCells = false) (_ : o.isWalk = false) : KBox Bs W (W.putObj l o') :=
  ⟨World.cell?_of_block (World.putObj_heap_other (by simp; omega)), (grownBy_putObj' W l o').size⟩

theorem parts_stops (n : Nat) (Bs : Nat) (s : ByteArray) (hs : s.size ≤ 9223372036854775807) (w : World) (hB : Bs < w.heap.size) (hc : w.cell? ⟨Bs, 0, none⟩ = some (.string s)) :
    SeqStopsK Fence.wide n Tryd.prog 75 #[.pointer (some ⟨Bs, 0, none⟩)] prtArgs (KBox Bs) (fun ys => ys = pts s.toList) (fun pre => pre <+: pts s.toList) (pts s.toList).length w :=
  fun l J Jx W hW hJ _ hY h0 => parts1_in n l Bs s hs J Jx hY W ((hW.cell (p := ⟨Bs, 0, none⟩) hB).trans hc) (by have := hW.size; omega) hJ h0

theorem infoPart : (Tryd.prog.info? 98).map (fun i => (i.zero, i.size, i.bytes)) = some (some (.agg #[.int .u8 0, .string ByteArray.empty]), 2, 24) := by kernel_rfl

/-- what holds between two rounds of the loop in vercmp.Parts -/
def PI (w : World) (pre : List Prt) (W : World) : Prop :=
  ∃ v, Boxed W w.heap.size 95 v ∧ W.ownsRow w.heap.size 98 2 v pre.length (pre.flatMap encP) ∧ True
def PIs (w : World) (s : ByteArray) (pre : List Prt) (W : World) : Prop := PI w pre W ∧ Boxed W (w.heap.size + 1) 9 (.string s) ∧ Below w.heap.size w W
def PX (_ : Code) (_ : List Prt) (_ : World) : Prop := False
theorem PX_own (c : Code) {B : Nat} : OwnFrom B (PX c) := fun _ _ _ _ h _ _ => h
/-- the block of the loop's own variable -/
def PBox (x : Prt) (b : Nat) (W : World) : Prop := W.heap[b]? = some (.cells #[.int .u8 x.1, .string (bs x.2)] 98 (0, 0))
theorem pbox_0 {x : Prt} {b : Nat} {W : World} (h : PBox x b W) : W.cell? ⟨b, 0, none⟩ = some (.int .u8 x.1) := by simp [World.cell?, show W.heap[b]? = _ from h]
theorem pbox_1 {x : Prt} {b : Nat} {W : World} (h : PBox x b W) : W.cell? ⟨b, 1, none⟩ = some (.string (bs x.2)) := by simp [World.cell?, show W.heap[b]? = _ from h]
theorem pbox_own (B : Nat) (x : Prt) (a' : Act) (f : Nat → Act) : OwnFrom B (fun (_ : Unit) W => ∃ b, a' = f b ∧ PBox x b W) := by
  rintro _ X Y row ⟨b, e, hb⟩ hg hrow
  refine ⟨b, e, (hg.block b (Array.getElem?_eq_some_iff.1 hb).1 (fun e2 => ?_)).trans hb⟩
  obtain ⟨_, o, ho, hc⟩ := hrow b e2.symm
  rw [show X.heap[b]? = _ from hb] at ho
  cases ho
  cases hc
theorem PIs_own (w : World) (s : ByteArray) {B : Nat} (hB : w.heap.size ≤ B) : OwnFrom B (PIs w s) :=
  OwnFrom.and (Own.from (holdsRow_own _ _ _ _ _ _ _ _) _) (OwnFrom.and (Own.from (boxed_own _ _ _) _) (ownFrom_below (Nat.le_refl _) hB))

set_option maxRecDepth 100000 in
set_option maxHeartbeats 2000000 in
theorem parts_in (s : ByteArray) (w : World) (hs : s.size ≤ 9223372036854775807) (hl : s.size ≤ 1000000000000) : CallsIn Fence.wide 6 Tryd.prog 69 #[.string s] w (PartsPost s w) := by
  obtain ⟨i0, hi, hz0, hz1, hz2⟩ := info_parts infoPart
  refine callsIn_of_wp_marks Tryd.func69 rfl trivial ?_ rfl
  simp only [Tryd.ntmps69, List.size_toArray, List.length_cons, List.length_nil, Nat.reduceAdd, Nat.reduceSub, Array.replicate_succ, Array.replicate_zero, List.push_toArray, List.append_toArray, List.nil_append, List.cons_append]
  gi_wp2_with (refine ⟨trivial, ?_⟩; gi_at_call 71; refine (partsv_in _ _ _).mono ?_; rintro e w' ⟨rfl, rfl⟩)
  have b0 := Boxed.new w 95 (.slice none 0 0)
  have b1 := Boxed.new (w.alloc (.cells #[.slice none 0 0] 95)) 9 (.string s)
  simp only [World.size_alloc] at b1
  have hB0 : Below w.heap.size w ((w.alloc (.cells #[.slice none 0 0] 95)).alloc (.cells #[.string s] 9)) :=
    ((Below.refl _ _).alloc (Nat.le_refl _) _).alloc (by simp) _
  refine wpIn_rangeFunc_ownH rfl (by decide) (gf := 75) (lb := #[.pointer (some ⟨w.heap.size + 1, 0, none⟩)]) rfl trivial (enters_of Tryd.func75 (by kernel_rfl) rfl)
    (parts_stops 5 (w.heap.size + 1) s (by omega) _ (by simp) b1.cell) kbox_t (kbox_b (by simp)) (Below.refl _ _) (fun _ => rfl)
    (PIs w s) PX (PIs_own w s (by simp; omega)) (fun c => PX_own c)
    ⟨⟨_, b0.alloc _, World.ownsRow_nil _ _ _ _, trivial⟩, b1, hB0⟩
    (fun x a' W => ∃ b, a' = { tmps := #[.string s, undef, .slice none 0 0, .pointer (some ⟨w.heap.size, 0, none⟩), .pointer (some ⟨b, 0, none⟩), .string s, .func (.func 75) #[] #[.pointer (some ⟨w.heap.size + 1, 0, none⟩)], .agg #[.int .u8 x.1, .string (bs x.2)], undef, undef, undef, undef, undef], defers := [] } ∧ PBox x b W)
    (fun x a' => pbox_own _ x a' _) ?assign ?body ?done ?stop
  case assign =>
    rintro l pre x W K ⟨⟨v, hv, hrow, _⟩, hp1, hB⟩ hK
    unfold prtArgs
    gi_wp2
    refine hK _ _ ((KeepsOthers.alloc _ _).from _) ⟨World.cell?_alloc_lt _ _ ⟨w.heap.size + 1, 0, none⟩ hp1.lt, by simp⟩ ⟨⟨v, hv.alloc _, World.ownsRow.alloc hrow _, trivial⟩, hp1.alloc _, hB.alloc hB.size _⟩ ⟨W.heap.size, rfl, World.alloc_heap_new _ _⟩
  case body =>
    rintro l pre x a' W hl0 hl1 ⟨⟨v, hv, hrow, _⟩, hp1, hB⟩ ⟨b, rfl, hb⟩ hlt
    have hN := pts_len s.toList
    rw [size_toList] at hN
    have hc := hv.cell
    have hf := hv.frozen
    have hx0 := pbox_0 hb
    have hx1 := pbox_1 hb
    obtain ⟨k, t⟩ := x
    dsimp only at hx0 hx1 ⊢
    gi_wp2_with (gi_at_builtin; refine wpListIn_append_own _ rfl _ _ 95 rfl w.heap.size 98 i0 (.agg #[.int .u8 0, .string ByteArray.empty]) 2 24 Tryd.underlying95 hi hz0 hz1 hz2 rfl (by decide) _ _ _ rfl (hrow.alloc _) ⟨W.heap.size, 0, none⟩ 1 1 [.int .u8 k, .string (bs t)] rfl rfl (cell_two_new _ _ _ _) (by simp [Value.oneCell']) (by simp only [maxLen]; omega) (by omega) (by have := hB.size; simp; omega) ?_; intro v' w1 hown' hgrow _; obtain ⟨g', cap', rfl⟩ := ownsRow_succ hown'; obtain ⟨hv1, hv2, hr2, hk2, hb2⟩ := hv.appended (by decide) hrow hB.size (Nat.le_refl _) hown' hgrow; have hc1 := hv1.cell; have hf1 := hv1.frozen)
    have h3 : Boxed (w1.setCell ⟨w.heap.size, 0, none⟩ (.slice (some ⟨g', 0, none⟩) (pre.length + 1) cap')) (w.heap.size + 1) 9 (.string s) := ((hp1.alloc _).kept hgrow (hp1.not_row (by decide) hrow)).other (by omega) _
    refine ⟨hk2.from _, ⟨h3.cell.trans hp1.cell.symm, hk2.size⟩, ⟨_, hv2, ?_, trivial⟩, h3, hB.trans hb2⟩
    simpa [encP] using hr2
  case done =>
    rintro D ys W hD rfl ⟨⟨v, hv, hrow, _⟩, hp1, hB⟩ hK
    obtain ⟨A, c, rfl⟩ := own_shape hrow
    have hc := hv.cell
    have hf := hv.frozen
    gi_wp2
    have hDw : w.heap.size + 2 ≤ D := by simp at hD; omega
    refine ⟨by simp, .inl ⟨_, _, rfl, run_takeDeferred hK, ?_⟩⟩
    exact ⟨.slice A (pts s.toList).length c, by simp [results, Tryd.results69, go_sem], _, rfl, ownsRow_putObj hrow _ hK rfl, hB.trans (belowK_b (w := w) (Nat.le_refl _) W D _ _ (by omega) hK rfl rfl)⟩
  case stop =>
    rintro D c pre W hD hpre h hK
    exact h.elim

/-- THE PARTS: a row of the call's own. -/
theorem parts_any (s : ByteArray) (w : World) (hs : s.size ≤ 1000000000000) : Calls Tryd.prog 69 #[.string s] w fun e w' =>
    ∃ v, e = .returned v ∧ Own encP 2 w.heap.size 98 v (pts s.toList) w' ∧ Below w.heap.size w w' := callsIn_wide.1 (parts_in s w (by omega) hs)
end Go.Proofs.YtcpjignlhlcnpaaDoor
