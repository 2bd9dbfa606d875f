/- RichBx, RichCopy -/
import Derived.Test.YtoglbogfoolkaaaGreatDoorRichTellsRowG42
import Derived.Test.YtoglbogfoolkaaaGreatDoorRichTellsRowG29
import Derived.Test.YtoglbogfoolkaaaGreatDoorRichTellsRowG37
import Derived.Test.YtoglbogfoolkaaaGreatDoorRichTellsRowG26
namespace Go.Proofs.YtoglbogfoolkaaaGreatDoor
section
/- A rich dependency in a box of the call's own, through calls; what Show answers, what Parse refuses: plain facts. -/



open Go.RowKit Go.Shelf
set_option linter.unusedVariables false

structure BX (a : RV) (m : Nat) (W : World) : Prop where
  box : Box7 m (.int .u8 a.kind) (.string (bs a.dep.name)) (.int .u8 a.dep.op) (.int .i64 a.dep.evr.epoch) (.string (bs a.dep.evr.ver)) (.string (bs a.dep.evr.rel)) (.slice a.addr a.args.length a.cap) W
  tree : RTree W.heap.size W a
theorem BX.then {W W' : World} {a : RV} {m : Nat} (h : BX a m W) (hb : Below W.heap.size W W') : BX a m W' :=
  ⟨h.box.past (hb.mono h.box.2.2), (h.tree.keeps hb).more hb.size⟩
theorem BX.alloc {W : World} {a : RV} {m : Nat} (h : BX a m W) (o : Obj) : BX a m (W.alloc o) := h.then ((Below.refl _ _).alloc (Nat.le_refl _) o)
theorem BX.new {w : World} {a : RV} (ha : RTree w.heap.size w a) : BX a w.heap.size (w.alloc (.cells #[.int .u8 a.kind, .string (bs a.dep.name), .int .u8 a.dep.op, .int .i64 a.dep.evr.epoch, .string (bs a.dep.evr.ver), .string (bs a.dep.evr.rel), .slice a.addr a.args.length a.cap] 39)) :=
  ⟨Box7.new w _ _ _ _ _ _ _ _, (ha.keeps ((Below.refl _ _).alloc (Nat.le_refl _) _)).more (by simp)⟩
theorem BX.lt {W : World} {a : RV} {m : Nat} (h : BX a m W) : m < W.heap.size := h.box.2.2
end
section
/- Walk: a rich dependency in new memory (chandleryref08.Copy). -/




open Go.RowKit Go.Shelf
set_option linter.unusedVariables false

/-- where Copy stands: what was copied so far -/
structure Cp (w : World) (t : RV) (l : List RV) (v : Value) (wr : World) : Prop where
  old : Below w.heap.size w wr
  inp : Box7 w.heap.size (.int .u8 t.kind) (.string (bs t.dep.name)) (.int .u8 t.dep.op) (.int .i64 t.dep.evr.epoch) (.string (bs t.dep.evr.ver)) (.string (bs t.dep.evr.rel)) (.slice t.addr t.args.length t.cap) wr
  res : zBox (w.heap.size + 1) wr
  out : Box7 (w.heap.size + 2) (.int .u8 t.kind) (.string (bs t.dep.name)) (.int .u8 t.dep.op) (.int .i64 t.dep.evr.epoch) (.string (bs t.dep.evr.ver)) (.string (bs t.dep.evr.rel)) v wr
  own : Own encR 7 (w.heap.size + 3) 39 v l wr
  tr : ∀ a ∈ l, TQ (fun b => w.heap.size + 3 ≤ b ∧ b < wr.heap.size ∧ v.ownBlock ≠ some b) wr a
section
variable {w wr w' : World} {t : RV} {l : List RV} {v : Value}
theorem Cp.call (h : Cp w t l v wr) (hb : Below wr.heap.size wr w') : Cp w t l v w' where
  old := h.old.trans (hb.mono h.old.size)
  inp := h.inp.past (hb.mono h.inp.2.2)
  res := h.res.past (hb.mono h.res.2.2)
  out := h.out.past (hb.mono h.out.2.2)
  own := by
    have ho := h.own
    unfold Own at *
    refine ⟨ho.1, ?_⟩
    rcases ho.2 with h2 | ⟨g, cap, cur, hv, hg, hh, r⟩
    · exact .inl h2
    · have hl : g < wr.heap.size := (Array.getElem?_eq_some_iff.1 hh).1
      exact .inr ⟨g, cap, cur, hv, hg, by rw [hb.block g hl]; exact hh, r⟩
  tr := fun a ha => (h.tr a ha).keep (fun b hq => ⟨hq.1, Nat.lt_of_lt_of_le hq.2.1 hb.size, hq.2.2⟩) fun b hq => hb.block b hq.2.1
theorem Cp.held {w6 : World} {cs : Obj} (h : Cp w t l v wr) (hg : (wr.alloc cs).grownBy w6 v.ownBlock) : w6.cell? ⟨w.heap.size + 2, 6, none⟩ = some v ∧ w6.frozen? ⟨w.heap.size + 2, 6, none⟩ = false ∧ w.heap.size + 2 < w6.heap.size := by
  have hm2 := h.out.2.2
  have hb : w6.heap[w.heap.size + 2]? = wr.heap[w.heap.size + 2]? := (hg.block (w.heap.size + 2) (by simp; omega) (fun e => by have := (World.ownsRow.lt h.own _ e.symm).1; omega)).trans (Below.heap_alloc _ _ _ hm2)
  have hz := hg.size
  refine ⟨(World.cell?_of_block (w := wr) (a := ⟨w.heap.size + 2, 6, none⟩) hb).trans h.out.1.2.2.2.2.2.2, (World.frozen?_of_block (w := wr) (a := ⟨w.heap.size + 2, 6, none⟩) hb).trans h.out.2.1.2.2.2.2.2.2, by simp at hz; omega⟩
/-- a copy more -/
theorem Cp.arg {rv : RV} {w6 : World} {v' : Value} {cs : Obj} (h : Cp w t l v wr) (hT : TQ (fun b => w'.heap.size ≤ b ∧ b < wr.heap.size) wr rv) (hw : w.heap.size + 3 ≤ w'.heap.size) (hv : ∀ b, v.ownBlock = some b → b < w'.heap.size)
    (ho : w6.ownsRow (w.heap.size + 3) 39 7 v' (l.length + 1) (l.flatMap encR ++ encR rv)) (hg : (wr.alloc cs).grownBy w6 v.ownBlock) (hv' : v'.ownBlock = v.ownBlock ∨ v'.ownBlock = some (wr.alloc cs).heap.size) : Cp w t (l ++ [rv]) v' (w6.setCell ⟨w.heap.size + 2, 6, none⟩ v') := by
  have hm2 := h.out.2.2
  have hsz : wr.heap.size + 1 = (wr.alloc cs).heap.size := by simp
  have hr : ∀ q, v.ownBlock = some q → w.heap.size + 3 ≤ q := fun q e => (World.ownsRow.lt h.own q e).1
  have hG : ∀ {B : Nat}, B ≤ w.heap.size + 3 → Below B (wr.alloc cs) w6 := fun hB => (Below.refl _ _).grown hg (by omega) (fun k e => Nat.le_trans hB (hr k e))
  have hA : ∀ {B : Nat}, B ≤ w.heap.size + 3 → Below B wr w6 := fun hB => ((Below.refl _ _).alloc (by omega) cs).trans (hG hB)
  have hblk : ∀ b, b < wr.heap.size → v.ownBlock ≠ some b → w6.heap[b]? = wr.heap[b]? := fun b hb hne => (hg.block b (by omega) (fun e => hne e.symm)).trans (Below.heap_alloc _ _ _ hb)
  have hset : ∀ b, b ≠ w.heap.size + 2 → (w6.setCell ⟨w.heap.size + 2, 6, none⟩ v').heap[b]? = w6.heap[b]? := fun b hb => Below.heap_setCell _ _ _ _ hb
  have hzs : (w6.setCell ⟨w.heap.size + 2, 6, none⟩ v').heap.size = w6.heap.size := by simp [World.setCell]
  have hz6 := hg.size
  have hz0 := h.old.size
  have hS : ∀ {B : Nat}, B ≤ w.heap.size + 2 → Below B wr (w6.setCell ⟨w.heap.size + 2, 6, none⟩ v') := fun hB => (hA (by omega)).setCell (p := ⟨w.heap.size + 2, 6, none⟩) hB v'
  have hQ : ∀ b, b < wr.heap.size → v.ownBlock ≠ some b → v'.ownBlock ≠ some b := fun b hb hne => by
    rcases hv' with e | e
    · rw [e]; exact hne
    · rw [e]; simp; omega
  have haway : v'.ownBlock ≠ some (w.heap.size + 2) := hQ _ hm2 (fun e => by have := hr _ e; omega)
  refine ⟨h.old.trans (hS (by omega)), h.inp.past (hS (by omega)), h.res.past (hS (by omega)), box7_set6 (h.out.past (hA (by omega))) v', ownsRow_setCell_other (Own.snoc ho) (a := ⟨w.heap.size + 2, 6, none⟩) haway v', ?_⟩
  intro a ha
  rcases List.mem_append.1 ha with ha | ha
  · exact (h.tr a ha).keep (fun b hq => ⟨hq.1, by omega, hQ b hq.2.1 hq.2.2⟩) fun b hq => (hset b (by omega)).trans (hblk b hq.2.1 hq.2.2)
  · simp at ha; subst ha
    exact hT.keep (fun b hq => ⟨by omega, by omega, hQ b hq.2 (fun e => by have := hv b e; omega)⟩) fun b hq => (hset b (by omega)).trans (hblk b hq.2 (fun e => by have := hv b e; omega))
end
/-- what Copy leaves: a tree alike, its row the call's own, and nothing of what is below in that row's block -/
def CopyPost (t : RV) (w : World) (e : Ending) (w' : World) : Prop :=
  ∃ (A : Option Addr) (c : Nat) (l : List RV), e = .returned (RV.node t.kind t.dep A c l).val ∧ treeL l = treeL t.args ∧ Own encR 7 w.heap.size 39 (.slice A l.length c) l w' ∧
    (∀ a ∈ l, TQ (fun b => w.heap.size ≤ b ∧ b < w'.heap.size ∧ (Value.slice A l.length c).ownBlock ≠ some b) w' a) ∧ Below w.heap.size w w'
theorem own_keep {α : Type} {enc : α → List Value} {size base base' : Nat} {e : TypeId} {v : Value} {l : List α} {w w' : World} (h : Own enc size base e v l w) (hb : base' ≤ base) (hk : ∀ g, v.ownBlock = some g → w'.heap[g]? = w.heap[g]?) : Own enc size base' e v l w' := by
  unfold Own at *
  refine ⟨h.1, ?_⟩
  rcases h.2 with h2 | ⟨g, cap, cur, hv, hg, hh, r⟩
  · exact .inl h2
  · exact .inr ⟨g, cap, cur, hv, by omega, by rw [hk g (by rw [hv]; rfl)]; exact hh, r⟩
theorem CopyPost.tq {t : RV} {w w' : World} {e : Ending} (hd : t.dep.wf) (h : CopyPost t w e w') : ∃ rv : RV, e = .returned rv.val ∧ rv.tree = t.tree ∧ TQ (fun b => w.heap.size ≤ b ∧ b < w'.heap.size) w' rv ∧ Below w.heap.size w w' := by
  obtain ⟨A, c, l, he, ht, ho, hs, hb⟩ := h
  refine ⟨_, he, by rw [tree_parts t]; simp only [RV.tree]; rw [ht], ?_, hb⟩
  obtain ⟨A', c', hv, hr⟩ := ho.rd encR_len
  cases hv
  refine .mk hd hr.1 hr.2.1 (fun k hk => ?_) fun a ha => (hs a ha).keep (fun b hq => ⟨hq.1, hq.2.1⟩) fun _ _ => rfl
  obtain ⟨b, off, e', hlt, hc⟩ := hr.2.2 k hk
  have e2 : A = some ⟨b, off, none⟩ := e'
  exact ⟨b, off, e', ⟨(World.ownsRow.lt ho b (by rw [e2]; rfl)).1, hlt⟩, hc⟩
theorem Cp.start {w : World} {t : RV} : Cp w t [] (.slice none 0 0) (((w.alloc (.cells #[.int .u8 t.kind, .string (bs t.dep.name), .int .u8 t.dep.op, .int .i64 t.dep.evr.epoch, .string (bs t.dep.evr.ver), .string (bs t.dep.evr.rel), .slice t.addr t.args.length t.cap] 39)).alloc (.cells #[.int .u8 0, .string ⟨#[]⟩, .int .u8 0, .int .i64 0, .string ⟨#[]⟩, .string ⟨#[]⟩, .slice none 0 0] 39)).alloc (.cells #[.int .u8 t.kind, .string (bs t.dep.name), .int .u8 t.dep.op, .int .i64 t.dep.evr.epoch, .string (bs t.dep.evr.ver), .string (bs t.dep.evr.rel), .slice none 0 0] 39)) := by
  generalize hO1 : (.cells #[.int .u8 t.kind, .string (bs t.dep.name), .int .u8 t.dep.op, .int .i64 t.dep.evr.epoch, .string (bs t.dep.evr.ver), .string (bs t.dep.evr.rel), .slice t.addr t.args.length t.cap] 39 : Obj) = o1
  generalize hO2 : (.cells #[.int .u8 0, .string ⟨#[]⟩, .int .u8 0, .int .i64 0, .string ⟨#[]⟩, .string ⟨#[]⟩, .slice none 0 0] 39 : Obj) = o2
  generalize hO3 : (.cells #[.int .u8 t.kind, .string (bs t.dep.name), .int .u8 t.dep.op, .int .i64 t.dep.evr.epoch, .string (bs t.dep.evr.ver), .string (bs t.dep.evr.rel), .slice none 0 0] 39 : Obj) = o3
  have z1 : (w.alloc o1).heap.size = w.heap.size + 1 := by simp
  have z2 : ((w.alloc o1).alloc o2).heap.size = w.heap.size + 2 := by simp
  have b1 : ∀ {B : Nat}, B ≤ w.heap.size → Below B w (w.alloc o1) := fun hB => (Below.refl _ _).alloc hB _
  have b2 : ∀ {B : Nat}, B ≤ w.heap.size + 1 → Below B (w.alloc o1) ((w.alloc o1).alloc o2) := fun hB => (Below.refl _ _).alloc (by omega) _
  have b3 : ∀ {B : Nat}, B ≤ w.heap.size + 2 → Below B ((w.alloc o1).alloc o2) (((w.alloc o1).alloc o2).alloc o3) := fun hB => (Below.refl _ _).alloc (by omega) _
  refine ⟨(b1 (Nat.le_refl _)).trans ((b2 (by omega)).trans (b3 (by omega))), ?_, ?_, ?_, Own.nil_ _ _ _, fun a ha => by simp at ha⟩
  · have h := Box7.new w (.int .u8 t.kind) (.string (bs t.dep.name)) (.int .u8 t.dep.op) (.int .i64 t.dep.evr.epoch) (.string (bs t.dep.evr.ver)) (.string (bs t.dep.evr.rel)) (.slice t.addr t.args.length t.cap) 39
    rw [hO1] at h
    exact (h.past (b2 (by omega))).past (b3 (by omega))
  · have h := Box7.new (w.alloc o1) (.int .u8 0) (.string ⟨#[]⟩) (.int .u8 0) (.int .i64 0) (.string ⟨#[]⟩) (.string ⟨#[]⟩) (.slice none 0 0) 39
    rw [hO2, z1] at h
    exact h.past (b3 (by omega))
  · have h := Box7.new ((w.alloc o1).alloc o2) (.int .u8 t.kind) (.string (bs t.dep.name)) (.int .u8 t.dep.op) (.int .i64 t.dep.evr.epoch) (.string (bs t.dep.evr.ver)) (.string (bs t.dep.evr.rel)) (.slice none 0 0) 39
    rw [hO3, z2] at h
    exact h
set_option maxRecDepth 100000 in
set_option maxHeartbeats 16000000 in
theorem rcopy_any : ∀ (f : Nat) (t : RV) (w : World), t.ht ≤ f → t.tree.parts ≤ 1000000 → RTree w.heap.size w t → Calls Tryz.prog 28 #[t.val] w (CopyPost t w)
  | 0, t, w, hf, _, _ => absurd hf (by rw [ht_args]; omega)
  | f + 1, t, w, hf, hp, ha => by
    have IH := Lib.hid (fun x W h1 h2 h3 => rcopy_any f x W h1 h2 h3)
    have HA := Lib.hid ha.rrow
    have HF := Lib.hid (show htL t.args ≤ f by rw [ht_args] at hf; omega)
    have HP := Lib.hid (show 1 + partsL (treeL t.args) ≤ 1000000 by rw [tree_parts t, RT.parts] at hp; exact hp)
    have HL := Lib.hid (show t.args.length ≤ 999999 by have h1 := HP.out; have h2 := partsL_len (treeL t.args); rw [treeL_len] at h2; omega)
    have hm := ha.row.len
    have C0 := Lib.hid (Cp.start (w := w) (t := t))
    have hz0 : (0 : Nat) = 0 := rfl
    unfold RV.val
    clear ha hf hp hz0
    go_enter Tryz.func28, Tryz.ntmps28
    go_wp2_with fail
    go_loopw [4] (fun iv wr => ∃ (i : Nat) (l : List RV) (v : Value), i ≤ t.args.length ∧ iv = .int .i64 (i : Int) ∧ treeL l = (treeL t.args).take i ∧ Cp w t l v wr) (fun iv _ => t.args.length - (intOf iv).toNat)
    case atStart => exact ⟨0, [], .slice none 0 0, Nat.zero_le _, rfl, by simp [treeL], C0.out⟩
    case round =>
      obtain ⟨i, l, v, hi, rfl, hl, hC⟩ := hrel
      rename World => wr
      have C := Lib.hid hC
      have HTL := Lib.hid hl
      clear hC hl C0
      obtain ⟨⟨a0, a1, a2, a3, a4, a5, a6⟩, _, al⟩ := id C.out.inp
      by_cases hlt : i < t.args.length
      · have TA := ((HA.out.below C.out.old).2 _ (List.getElem_mem hlt)).more C.out.old.size
        have hwf := TA.wf
        have hht := Nat.le_trans (ht_mem (List.getElem_mem hlt)) HF.out
        have hkt : i < (treeL t.args).length := by rw [treeL_len]; exact hlt
        have hpp := partsL_get (l := treeL t.args) hkt
        rw [treeL_get t.args i hlt] at hpp
        have HC := Lib.hid (fun (W : World) (hb : Below wr.heap.size wr W) => (IH.out t.args[i] W hht (by have := HP.out; omega) ((TA.keeps hb).more hb.size)).mono fun e w' h => CopyPost.tq hwf h)
        obtain ⟨b, o, hadr, hb, e0, e1, e2, e3, e4, e5, e6⟩ := (HA.out.below C.out.old).at_ hlt
        rw [hadr] at a6 ⊢
        have HTN := Lib.hid (show ∀ rv : RV, rv.tree = t.args[i].tree → treeL (l ++ [rv]) = (treeL t.args).take (i + 1) from fun rv h => by rw [treeL_app, HTL.out, take_snoc _ _ hkt, treeL_get t.args i hlt]; simp only [treeL, h])
        have HLL := Lib.hid (show l.length ≤ 999999 by have h1 := congrArg List.length HTL.out; rw [treeL_len, List.length_take, treeL_len] at h1; have := HL.out; omega)
        have HV := Lib.hid (show ∀ b, v.ownBlock = some b → b < wr.drew.heap.size from fun b hb => (World.ownsRow.lt C.out.own b hb).2)
        obtain ⟨⟨g0, g1, g2, g3, g4, g5, g6⟩, ⟨f0, f1, f2, f3, f4, f5, f6⟩, gl⟩ := id C.out.out
        have i0 : (0 : Int) ≤ (i : Int) := by omega
        have i1 : (i : Int) < (t.args.length : Int) := by omega
        unfold RV.val at HC
        clear TA hwf hht hkt hpp IH
        generalize t.args[i] = x at *
        generalize t.args.length = n at *
        go_wp2_with fail
        go_region_law (first | (refine step_append_rd (P := Tryz.prog) _ rfl _ _ 25 rfl (w.heap.size + 3) 39 _ _ 7 _ (by rfl) (by rfl) (by rfl) (by rfl) (by rfl) (by rfl) (by decide) encR_len encR_one v _ _ rfl (World.ownsRow.alloc C8.out.own _) (w8.heap.size + 1) (some ⟨w8.heap.size, 0, none⟩) 1 [rv2] 1 rfl rfl (rd_lit w8 rv2) (by have := HLL.out; simp; omega) (by decide) (by have := C8.out.old.size; have := C8.out.out.2.2; simp; omega) ?_; intro v2 w9 ho2 hg2 hv2; simp only [List.length_cons, List.length_nil, Nat.zero_add, List.flatMap_cons, List.flatMap_nil, List.append_nil] at ho2; obtain ⟨y6, z6, zl⟩ := C8.out.held hg2; obtain ⟨AA, cc, rfl⟩ := own_shape ho2) | (go_simp; go_at_call 28; refine (HC.out _ (Below.refl _ _).drew).mono ?_; rintro en w8 ⟨rv2, rfl, hrt2, hT2, hB8⟩; have C8 := Lib.hid ((C.out.call (Below.refl _ _).drew).call hB8); have q6 := C8.out.out.1.2.2.2.2.2.2; have el := C8.out.out.2.2; have HT2 := Lib.hid hT2; have HRT := Lib.hid hrt2; clear hT2 hB8 hrt2; (try unfold RV.val); (try dsimp only)))
        all_goals
          have C9 := Lib.hid (C8.out.arg HT2.out (by have := C.out.out.2.2; show w.heap.size + 3 ≤ wr.heap.size; omega) HV.out ho2 hg2 hv2)
          have HS := Lib.hid (HTN.out rv2 HRT.out)
          clear y6 z6 zl q6 el ho2 hg2 hv2 HT2 C8 a0 a1 a2 a3 a4 a5 a6 al e0 e1 e2 e3 e4 e5 e6 g0 g1 g2 g3 g4 g5 g6 f0 f1 f2 f3 f4 f5 f6 gl
          generalize w9.setCell ⟨w.heap.size + 2, 6, none⟩ (.slice AA (l.length + 1) cc) = w10 at *
          go_wp2_with fail
          go_roundw
          case rel => exact ⟨i + 1, l ++ [rv2], .slice AA (l.length + 1) cc, by omega, by go_num, HS.out, C9.out⟩
          case measure => simp [intOf]; omega
      · obtain rfl : i = t.args.length := by omega
        have HFULL := Lib.hid (show treeL l = treeL t.args by rw [HTL.out, List.take_of_length_le (by rw [treeL_len]; exact Nat.le_refl _)])
        have i1 : ¬ (t.args.length : Int) < (t.args.length : Int) := by omega
        obtain ⟨AA, cc, hv⟩ := own_shape C.out.own
        subst hv
        obtain ⟨⟨g0, g1, g2, g3, g4, g5, g6⟩, _, gl⟩ := id C.out.out
        obtain ⟨⟨r0, r1, r2, r3, r4, r5, r6⟩, ⟨k0, k1, k2, k3, k4, k5, k6⟩, rl⟩ := id C.out.res
        clear hlt IH HTL
        go_wp2_with fail
        have XF := C.out.res.store (.int .u8 t.kind) (.string (bs t.dep.name)) (.int .u8 t.dep.op) (.int .i64 t.dep.evr.epoch) (.string (bs t.dep.evr.ver)) (.string (bs t.dep.evr.rel)) (.slice AA l.length cc)
        have hz := store7_size (w.heap.size + 1) (.int .u8 t.kind) (.string (bs t.dep.name)) (.int .u8 t.dep.op) (.int .i64 t.dep.evr.epoch) (.string (bs t.dep.evr.ver)) (.string (bs t.dep.evr.rel)) (.slice AA l.length cc) wr
        have hk : ∀ b, b ≠ w.heap.size + 1 → (store7 (w.heap.size + 1) (.int .u8 t.kind) (.string (bs t.dep.name)) (.int .u8 t.dep.op) (.int .i64 t.dep.evr.epoch) (.string (bs t.dep.evr.ver)) (.string (bs t.dep.evr.rel)) (.slice AA l.length cc) wr).heap[b]? = wr.heap[b]? := fun b hb => store7_block _ _ _ _ _ _ _ _ _ hb
        unfold store7 at XF
        obtain ⟨⟨j0, j1, j2, j3, j4, j5, j6⟩, _⟩ := XF
        refine bodyPost_ret (v := .agg #[.int .u8 t.kind, .string (bs t.dep.name), .int .u8 t.dep.op, .int .i64 t.dep.evr.epoch, .string (bs t.dep.evr.ver), .string (bs t.dep.evr.rel), .slice AA l.length cc]) (by simp [results, Tryz.results28, go_sem, j0, j1, j2, j3, j4, j5, j6]; try rfl) rfl ?_
        exact ⟨AA, cc, l, rfl, HFULL.out, own_keep C.out.own (by omega) (fun g hg => hk g (by have := (World.ownsRow.lt C.out.own g hg).1; omega)),
          fun a ha => (C.out.tr a ha).keep (fun b hq => ⟨by omega, by have h1 := hq.2.1; exact Nat.lt_of_lt_of_eq h1 hz.symm, hq.2.2⟩) fun b hq => hk b (by omega),
          C.out.old.trans (store7_below (by omega) (Below.refl _ _) _ _ _ _ _ _ _)⟩
end
end Go.Proofs.YtoglbogfoolkaaaGreatDoor
