/- joined: RichCopy, RichNodes, RichPartsP, RichPartsM -/
import Derived.Test.YtpnnhhgojijlbaaDoorRcB
import Derived.Test.YtpnnhhgojijlbaaDoorRichSame
import Derived.Test.YtpnnhhgojijlbaaDoorRichBx
namespace Go.Proofs.YtpnnhhgojijlbaaDoor
open Go.RowKit Go.Shelf
set_option linter.unusedVariables false
/- Walk: a rich dependency in new memory (chandleryref08.Copy). -/

/-- where Copy stands: what was copied so far -/
structure Cp (w : World) (t : RV) (l : List RV) (v : Value) (wr : World) : Prop where
  old : Below w.heap.size w wr
  inp : Box7 w.heap.size (.int .u8 t.kind) (.string (bs t.dep.name)) (.int .u8 t.dep.op) (.int .i64 t.dep.evr.epoch) (.string (bs t.dep.evr.ver)) (.string (bs t.dep.evr.rel)) (.slice t.addr t.args.length t.cap) wr
  res : zBox (w.heap.size + 1) wr
  out : Box7 (w.heap.size + 2) (.int .u8 t.kind) (.string (bs t.dep.name)) (.int .u8 t.dep.op) (.int .i64 t.dep.evr.epoch) (.string (bs t.dep.evr.ver)) (.string (bs t.dep.evr.rel)) v wr
  own : Own encR 7 (w.heap.size + 3) 29 v l wr
  tr : ∀ a ∈ l, TQ (fun b => w.heap.size + 3 ≤ b ∧ b < wr.heap.size ∧ v.ownBlock ≠ some b) wr a
section
variable {w wr w' : World} {t : RV} {l : List RV} {v : Value}
theorem Cp.call (h : Cp w t l v wr) (hb : Below wr.heap.size wr w') : Cp w t l v w' where
  old := h.old.trans (hb.mono h.old.size)
  inp := h.inp.past (hb.mono h.inp.2.2)
  res := h.res.past (hb.mono h.res.2.2)
  out := h.out.past (hb.mono h.out.2.2)
  own := by
    have ho := h.own
    unfold Own at *
    refine ⟨ho.1, ?_⟩
    rcases ho.2 with h2 | ⟨g, cap, cur, hv, hg, hh, r⟩
    · exact .inl h2
    · have hl : g < wr.heap.size := (Array.getElem?_eq_some_iff.1 hh).1
      exact .inr ⟨g, cap, cur, hv, hg, by rw [hb.block g hl]; exact hh, r⟩
  tr := fun a ha => (h.tr a ha).keep (fun b hq => ⟨hq.1, Nat.lt_of_lt_of_le hq.2.1 hb.size, hq.2.2⟩) fun b hq => hb.block b hq.2.1
theorem Cp.held {w6 : World} {cs : Obj} (h : Cp w t l v wr) (hg : (wr.alloc cs).grownBy w6 v.ownBlock) : w6.cell? ⟨w.heap.size + 2, 6, none⟩ = some v ∧ w6.frozen? ⟨w.heap.size + 2, 6, none⟩ = false ∧ w.heap.size + 2 < w6.heap.size := by
  have hm2 := h.out.2.2
  have hb : w6.heap[w.heap.size + 2]? = wr.heap[w.heap.size + 2]? := (hg.block (w.heap.size + 2) (by simp; omega) (fun e => by have := (World.ownsRow.lt h.own _ e.symm).1; omega)).trans (Below.heap_alloc _ _ _ hm2)
  have hz := hg.size
  refine ⟨(World.cell?_of_block (w := wr) (a := ⟨w.heap.size + 2, 6, none⟩) hb).trans h.out.1.2.2.2.2.2.2, (World.frozen?_of_block (w := wr) (a := ⟨w.heap.size + 2, 6, none⟩) hb).trans h.out.2.1.2.2.2.2.2.2, by simp at hz; omega⟩
/-- a copy more -/
theorem Cp.arg {rv : RV} {w6 : World} {v' : Value} {cs : Obj} (h : Cp w t l v wr) (hT : TQ (fun b => w'.heap.size ≤ b ∧ b < wr.heap.size) wr rv) (hw : w.heap.size + 3 ≤ w'.heap.size) (hv : ∀ b, v.ownBlock = some b → b < w'.heap.size)
    (ho : w6.ownsRow (w.heap.size + 3) 29 7 v' (l.length + 1) (l.flatMap encR ++ encR rv)) (hg : (wr.alloc cs).grownBy w6 v.ownBlock) (hv' : v'.ownBlock = v.ownBlock ∨ v'.ownBlock = some (wr.alloc cs).heap.size) : Cp w t (l ++ [rv]) v' (w6.setCell ⟨w.heap.size + 2, 6, none⟩ v') := by
  have hm2 := h.out.2.2
  have hsz : wr.heap.size + 1 = (wr.alloc cs).heap.size := by simp
  have hr : ∀ q, v.ownBlock = some q → w.heap.size + 3 ≤ q := fun q e => (World.ownsRow.lt h.own q e).1
  have hG : ∀ {B : Nat}, B ≤ w.heap.size + 3 → Below B (wr.alloc cs) w6 := fun hB => (Below.refl _ _).grown hg (by omega) (fun k e => Nat.le_trans hB (hr k e))
  have hA : ∀ {B : Nat}, B ≤ w.heap.size + 3 → Below B wr w6 := fun hB => ((Below.refl _ _).alloc (by omega) cs).trans (hG hB)
  have hblk : ∀ b, b < wr.heap.size → v.ownBlock ≠ some b → w6.heap[b]? = wr.heap[b]? := fun b hb hne => (hg.block b (by omega) (fun e => hne e.symm)).trans (Below.heap_alloc _ _ _ hb)
  have hset : ∀ b, b ≠ w.heap.size + 2 → (w6.setCell ⟨w.heap.size + 2, 6, none⟩ v').heap[b]? = w6.heap[b]? := fun b hb => Below.heap_setCell _ _ _ _ hb
  have hzs : (w6.setCell ⟨w.heap.size + 2, 6, none⟩ v').heap.size = w6.heap.size := by simp [World.setCell]
  have hz6 := hg.size
  have hz0 := h.old.size
  have hS : ∀ {B : Nat}, B ≤ w.heap.size + 2 → Below B wr (w6.setCell ⟨w.heap.size + 2, 6, none⟩ v') := fun hB => (hA (by omega)).setCell (p := ⟨w.heap.size + 2, 6, none⟩) hB v'
  have hQ : ∀ b, b < wr.heap.size → v.ownBlock ≠ some b → v'.ownBlock ≠ some b := fun b hb hne => by
    rcases hv' with e | e
    · rw [e]; exact hne
    · rw [e]; simp; omega
  have haway : v'.ownBlock ≠ some (w.heap.size + 2) := hQ _ hm2 (fun e => by have := hr _ e; omega)
  refine ⟨h.old.trans (hS (by omega)), h.inp.past (hS (by omega)), h.res.past (hS (by omega)), box7_set6 (h.out.past (hA (by omega))) v', ownsRow_setCell_other (Own.snoc ho) (a := ⟨w.heap.size + 2, 6, none⟩) haway v', ?_⟩
  intro a ha
  rcases List.mem_append.1 ha with ha | ha
  · exact (h.tr a ha).keep (fun b hq => ⟨hq.1, by omega, hQ b hq.2.1 hq.2.2⟩) fun b hq => (hset b (by omega)).trans (hblk b hq.2.1 hq.2.2)
  · simp at ha; subst ha
    exact hT.keep (fun b hq => ⟨by omega, by omega, hQ b hq.2 (fun e => by have := hv b e; omega)⟩) fun b hq => (hset b (by omega)).trans (hblk b hq.2 (fun e => by have := hv b e; omega))
end
/-- what Copy leaves: a tree alike, its row the call's own, and nothing of what is below in that row's block -/
def CopyPost (t : RV) (w : World) (e : Ending) (w' : World) : Prop :=
  ∃ (A : Option Addr) (c : Nat) (l : List RV), e = .returned (RV.node t.kind t.dep A c l).val ∧ treeL l = treeL t.args ∧ Own encR 7 w.heap.size 29 (.slice A l.length c) l w' ∧
    (∀ a ∈ l, TQ (fun b => w.heap.size ≤ b ∧ b < w'.heap.size ∧ (Value.slice A l.length c).ownBlock ≠ some b) w' a) ∧ Below w.heap.size w w'
theorem own_keep {α : Type} {enc : α → List Value} {size base base' : Nat} {e : TypeId} {v : Value} {l : List α} {w w' : World} (h : Own enc size base e v l w) (hb : base' ≤ base) (hk : ∀ g, v.ownBlock = some g → w'.heap[g]? = w.heap[g]?) : Own enc size base' e v l w' := by
  unfold Own at *
  refine ⟨h.1, ?_⟩
  rcases h.2 with h2 | ⟨g, cap, cur, hv, hg, hh, r⟩
  · exact .inl h2
  · exact .inr ⟨g, cap, cur, hv, by omega, by rw [hk g (by rw [hv]; rfl)]; exact hh, r⟩
theorem CopyPost.tq {t : RV} {w w' : World} {e : Ending} (hd : t.dep.wf) (h : CopyPost t w e w') : ∃ rv : RV, e = .returned rv.val ∧ rv.tree = t.tree ∧ TQ (fun b => w.heap.size ≤ b ∧ b < w'.heap.size) w' rv ∧ Below w.heap.size w w' := by
  obtain ⟨A, c, l, he, ht, ho, hs, hb⟩ := h
  refine ⟨_, he, by rw [tree_parts t]; simp only [RV.tree]; rw [ht], ?_, hb⟩
  obtain ⟨A', c', hv, hr⟩ := ho.rd encR_len
  cases hv
  refine .mk hd hr.1 hr.2.1 (fun k hk => ?_) fun a ha => (hs a ha).keep (fun b hq => ⟨hq.1, hq.2.1⟩) fun _ _ => rfl
  obtain ⟨b, off, e', hlt, hc⟩ := hr.2.2 k hk
  have e2 : A = some ⟨b, off, none⟩ := e'
  exact ⟨b, off, e', ⟨(World.ownsRow.lt ho b (by rw [e2]; rfl)).1, hlt⟩, hc⟩
theorem Cp.start {w : World} {t : RV} : Cp w t [] (.slice none 0 0) (((w.alloc (.cells #[.int .u8 t.kind, .string (bs t.dep.name), .int .u8 t.dep.op, .int .i64 t.dep.evr.epoch, .string (bs t.dep.evr.ver), .string (bs t.dep.evr.rel), .slice t.addr t.args.length t.cap] 29)).alloc (.cells #[.int .u8 0, .string ⟨#[]⟩, .int .u8 0, .int .i64 0, .string ⟨#[]⟩, .string ⟨#[]⟩, .slice none 0 0] 29)).alloc (.cells #[.int .u8 t.kind, .string (bs t.dep.name), .int .u8 t.dep.op, .int .i64 t.dep.evr.epoch, .string (bs t.dep.evr.ver), .string (bs t.dep.evr.rel), .slice none 0 0] 29)) := by
  generalize hO1 : (.cells #[.int .u8 t.kind, .string (bs t.dep.name), .int .u8 t.dep.op, .int .i64 t.dep.evr.epoch, .string (bs t.dep.evr.ver), .string (bs t.dep.evr.rel), .slice t.addr t.args.length t.cap] 29 : Obj) = o1
  generalize hO2 : (.cells #[.int .u8 0, .string ⟨#[]⟩, .int .u8 0, .int .i64 0, .string ⟨#[]⟩, .string ⟨#[]⟩, .slice none 0 0] 29 : Obj) = o2
  generalize hO3 : (.cells #[.int .u8 t.kind, .string (bs t.dep.name), .int .u8 t.dep.op, .int .i64 t.dep.evr.epoch, .string (bs t.dep.evr.ver), .string (bs t.dep.evr.rel), .slice none 0 0] 29 : Obj) = o3
  have z1 : (w.alloc o1).heap.size = w.heap.size + 1 := by simp
  have z2 : ((w.alloc o1).alloc o2).heap.size = w.heap.size + 2 := by simp
  have b1 : ∀ {B : Nat}, B ≤ w.heap.size → Below B w (w.alloc o1) := fun hB => (Below.refl _ _).alloc hB _
  have b2 : ∀ {B : Nat}, B ≤ w.heap.size + 1 → Below B (w.alloc o1) ((w.alloc o1).alloc o2) := fun hB => (Below.refl _ _).alloc (by omega) _
  have b3 : ∀ {B : Nat}, B ≤ w.heap.size + 2 → Below B ((w.alloc o1).alloc o2) (((w.alloc o1).alloc o2).alloc o3) := fun hB => (Below.refl _ _).alloc (by omega) _
  refine ⟨(b1 (Nat.le_refl _)).trans ((b2 (by omega)).trans (b3 (by omega))), ?_, ?_, ?_, Own.nil_ _ _ _, fun a ha => by simp at ha⟩
  · have h := Box7.new w (.int .u8 t.kind) (.string (bs t.dep.name)) (.int .u8 t.dep.op) (.int .i64 t.dep.evr.epoch) (.string (bs t.dep.evr.ver)) (.string (bs t.dep.evr.rel)) (.slice t.addr t.args.length t.cap) 29
    rw [hO1] at h
    exact (h.past (b2 (by omega))).past (b3 (by omega))
  · have h := Box7.new (w.alloc o1) (.int .u8 0) (.string ⟨#[]⟩) (.int .u8 0) (.int .i64 0) (.string ⟨#[]⟩) (.string ⟨#[]⟩) (.slice none 0 0) 29
    rw [hO2, z1] at h
    exact h.past (b3 (by omega))
  · have h := Box7.new ((w.alloc o1).alloc o2) (.int .u8 t.kind) (.string (bs t.dep.name)) (.int .u8 t.dep.op) (.int .i64 t.dep.evr.epoch) (.string (bs t.dep.evr.ver)) (.string (bs t.dep.evr.rel)) (.slice none 0 0) 29
    rw [hO3, z2] at h
    exact h
set_option maxRecDepth 100000 in
set_option maxHeartbeats 16000000 in
theorem rcopy_any : ∀ (f : Nat) (t : RV) (w : World), t.ht ≤ f → t.tree.parts ≤ 1000000 → RTree w.heap.size w t → Calls Tryd.prog 14 #[t.val] w (CopyPost t w)
  | 0, t, w, hf, _, _ => absurd hf (by rw [ht_args]; omega)
  | f + 1, t, w, hf, hp, ha => by
    have IH := Lib.hid (fun x W h1 h2 h3 => rcopy_any f x W h1 h2 h3)
    have HA := Lib.hid ha.rrow
    have HF := Lib.hid (show htL t.args ≤ f by rw [ht_args] at hf; omega)
    have HP := Lib.hid (show 1 + partsL (treeL t.args) ≤ 1000000 by rw [tree_parts t, RT.parts] at hp; exact hp)
    have HL := Lib.hid (show t.args.length ≤ 999999 by have h1 := HP.out; have h2 := partsL_len (treeL t.args); rw [treeL_len] at h2; omega)
    have hm := ha.row.len
    have C0 := Lib.hid (Cp.start (w := w) (t := t))
    have hz0 : (0 : Nat) = 0 := rfl
    unfold RV.val
    clear ha hf hp hz0
    go_enter Tryd.func14, Tryd.ntmps14
    go_wp2_with fail
    go_loopw [4] (fun iv wr => ∃ (i : Nat) (l : List RV) (v : Value), i ≤ t.args.length ∧ iv = .int .i64 (i : Int) ∧ treeL l = (treeL t.args).take i ∧ Cp w t l v wr) (fun iv _ => t.args.length - (intOf iv).toNat)
    case atStart => exact ⟨0, [], .slice none 0 0, Nat.zero_le _, rfl, by simp [treeL], C0.out⟩
    case round =>
      obtain ⟨i, l, v, hi, rfl, hl, hC⟩ := hrel
      rename World => wr
      have C := Lib.hid hC
      have HTL := Lib.hid hl
      clear hC hl C0
      obtain ⟨⟨a0, a1, a2, a3, a4, a5, a6⟩, _, al⟩ := id C.out.inp
      by_cases hlt : i < t.args.length
      · have TA := ((HA.out.below C.out.old).2 _ (List.getElem_mem hlt)).more C.out.old.size
        have hwf := TA.wf
        have hht := Nat.le_trans (ht_mem (List.getElem_mem hlt)) HF.out
        have hkt : i < (treeL t.args).length := by rw [treeL_len]; exact hlt
        have hpp := partsL_get (l := treeL t.args) hkt
        rw [treeL_get t.args i hlt] at hpp
        have HC := Lib.hid (fun (W : World) (hb : Below wr.heap.size wr W) => (IH.out t.args[i] W hht (by have := HP.out; omega) ((TA.keeps hb).more hb.size)).mono fun e w' h => CopyPost.tq hwf h)
        obtain ⟨b, o, hadr, hb, e0, e1, e2, e3, e4, e5, e6⟩ := (HA.out.below C.out.old).at_ hlt
        rw [hadr] at a6 ⊢
        have HTN := Lib.hid (show ∀ rv : RV, rv.tree = t.args[i].tree → treeL (l ++ [rv]) = (treeL t.args).take (i + 1) from fun rv h => by rw [treeL_app, HTL.out, take_snoc _ _ hkt, treeL_get t.args i hlt]; simp only [treeL, h])
        have HLL := Lib.hid (show l.length ≤ 999999 by have h1 := congrArg List.length HTL.out; rw [treeL_len, List.length_take, treeL_len] at h1; have := HL.out; omega)
        have HV := Lib.hid (show ∀ b, v.ownBlock = some b → b < wr.drew.heap.size from fun b hb => (World.ownsRow.lt C.out.own b hb).2)
        obtain ⟨⟨g0, g1, g2, g3, g4, g5, g6⟩, ⟨f0, f1, f2, f3, f4, f5, f6⟩, gl⟩ := id C.out.out
        have i0 : (0 : Int) ≤ (i : Int) := by omega
        have i1 : (i : Int) < (t.args.length : Int) := by omega
        unfold RV.val at HC
        clear TA hwf hht hkt hpp IH
        generalize t.args[i] = x at *
        generalize t.args.length = n at *
        go_wp2_with fail
        go_region_law (first | (refine step_append_rd (P := Tryd.prog) _ rfl _ _ 27 rfl (w.heap.size + 3) 29 _ _ 7 _ (by rfl) (by rfl) (by rfl) (by rfl) (by rfl) (by rfl) (by decide) encR_len encR_one v _ _ rfl (World.ownsRow.alloc C8.out.own _) (w8.heap.size + 1) (some ⟨w8.heap.size, 0, none⟩) 1 [rv2] 1 rfl rfl (rd_lit w8 rv2) (by have := HLL.out; simp; omega) (by decide) (by have := C8.out.old.size; have := C8.out.out.2.2; simp; omega) ?_; intro v2 w9 ho2 hg2 hv2; simp only [List.length_cons, List.length_nil, Nat.zero_add, List.flatMap_cons, List.flatMap_nil, List.append_nil] at ho2; obtain ⟨y6, z6, zl⟩ := C8.out.held hg2; obtain ⟨AA, cc, rfl⟩ := own_shape ho2) | (go_simp; go_at_call 14; refine (HC.out _ (Below.refl _ _).drew).mono ?_; rintro en w8 ⟨rv2, rfl, hrt2, hT2, hB8⟩; have C8 := Lib.hid ((C.out.call (Below.refl _ _).drew).call hB8); have q6 := C8.out.out.1.2.2.2.2.2.2; have el := C8.out.out.2.2; have HT2 := Lib.hid hT2; have HRT := Lib.hid hrt2; clear hT2 hB8 hrt2; (try unfold RV.val); (try dsimp only)))
        all_goals
          have C9 := Lib.hid (C8.out.arg HT2.out (by have := C.out.out.2.2; show w.heap.size + 3 ≤ wr.heap.size; omega) HV.out ho2 hg2 hv2)
          have HS := Lib.hid (HTN.out rv2 HRT.out)
          clear y6 z6 zl q6 el ho2 hg2 hv2 HT2 C8 a0 a1 a2 a3 a4 a5 a6 al e0 e1 e2 e3 e4 e5 e6 g0 g1 g2 g3 g4 g5 g6 f0 f1 f2 f3 f4 f5 f6 gl
          generalize w9.setCell ⟨w.heap.size + 2, 6, none⟩ (.slice AA (l.length + 1) cc) = w10 at *
          go_wp2_with fail
          go_roundw
          case rel => exact ⟨i + 1, l ++ [rv2], .slice AA (l.length + 1) cc, by omega, by go_num, HS.out, C9.out⟩
          case measure => simp [intOf]; omega
      · obtain rfl : i = t.args.length := by omega
        have HFULL := Lib.hid (show treeL l = treeL t.args by rw [HTL.out, List.take_of_length_le (by rw [treeL_len]; exact Nat.le_refl _)])
        have i1 : ¬ (t.args.length : Int) < (t.args.length : Int) := by omega
        obtain ⟨AA, cc, hv⟩ := own_shape C.out.own
        subst hv
        obtain ⟨⟨g0, g1, g2, g3, g4, g5, g6⟩, _, gl⟩ := id C.out.out
        obtain ⟨⟨r0, r1, r2, r3, r4, r5, r6⟩, ⟨k0, k1, k2, k3, k4, k5, k6⟩, rl⟩ := id C.out.res
        clear hlt IH HTL
        go_wp2_with fail
        have XF := C.out.res.store (.int .u8 t.kind) (.string (bs t.dep.name)) (.int .u8 t.dep.op) (.int .i64 t.dep.evr.epoch) (.string (bs t.dep.evr.ver)) (.string (bs t.dep.evr.rel)) (.slice AA l.length cc)
        have hz := store7_size (w.heap.size + 1) (.int .u8 t.kind) (.string (bs t.dep.name)) (.int .u8 t.dep.op) (.int .i64 t.dep.evr.epoch) (.string (bs t.dep.evr.ver)) (.string (bs t.dep.evr.rel)) (.slice AA l.length cc) wr
        have hk : ∀ b, b ≠ w.heap.size + 1 → (store7 (w.heap.size + 1) (.int .u8 t.kind) (.string (bs t.dep.name)) (.int .u8 t.dep.op) (.int .i64 t.dep.evr.epoch) (.string (bs t.dep.evr.ver)) (.string (bs t.dep.evr.rel)) (.slice AA l.length cc) wr).heap[b]? = wr.heap[b]? := fun b hb => store7_block _ _ _ _ _ _ _ _ _ hb
        unfold store7 at XF
        obtain ⟨⟨j0, j1, j2, j3, j4, j5, j6⟩, _⟩ := XF
        refine bodyPost_ret (v := .agg #[.int .u8 t.kind, .string (bs t.dep.name), .int .u8 t.dep.op, .int .i64 t.dep.evr.epoch, .string (bs t.dep.evr.ver), .string (bs t.dep.evr.rel), .slice AA l.length cc]) (by simp [results, Tryd.results14, go_sem, j0, j1, j2, j3, j4, j5, j6]; try rfl) rfl ?_
        exact ⟨AA, cc, l, rfl, HFULL.out, own_keep C.out.own (by omega) (fun g hg => hk g (by have := (World.ownsRow.lt C.out.own g hg).1; omega)),
          fun a ha => (C.out.tr a ha).keep (fun b hq => ⟨by omega, by have h1 := hq.2.1; exact Nat.lt_of_lt_of_eq h1 hz.symm, hq.2.2⟩) fun b hq => hk b (by omega),
          C.out.old.trans (store7_below (by omega) (Below.refl _ _) _ _ _ _ _ _ _)⟩

/- Walk: of how many parts a rich dependency is (chandlerylaw08.nodes). -/

set_option maxRecDepth 100000 in
set_option maxHeartbeats 16000000 in
theorem rnodes_any : ∀ (f : Nat) (t : RV) (w : World), t.ht ≤ f → t.tree.parts ≤ 1000000 → RTree w.heap.size w t → Calls Tryd.prog 15 #[t.val] w fun e w' => e = .returned (.int .i64 (t.tree.parts : Int)) ∧ Below w.heap.size w w'
  | 0, t, w, hf, _, _ => absurd hf (by rw [ht_args]; omega)
  | f + 1, t, w, hf, hp, ha => by
    have IH := Lib.hid (fun x W h1 h2 h3 => rnodes_any f x W h1 h2 h3)
    have HA := Lib.hid ha.rrow
    have HF := Lib.hid (show htL t.args ≤ f by rw [ht_args] at hf; omega)
    have HPE := Lib.hid (show t.tree.parts = 1 + partsL (treeL t.args) by rw [tree_parts t, RT.parts])
    have HP := Lib.hid (show 1 + partsL (treeL t.args) ≤ 1000000 by rw [tree_parts t, RT.parts] at hp; exact hp)
    have hm := ha.row.len
    have B0 := Lib.hid (BX.new ha)
    unfold RV.val
    clear ha hf hp
    go_enter Tryd.func15, Tryd.ntmps15
    go_wp2_with fail
    go_loopw [3, 4] (fun cv iv wr => ∃ (i c : Nat), i ≤ t.args.length ∧ iv = .int .i64 (i : Int) ∧ cv = .int .i64 (c : Int) ∧ c = 1 + partsL ((treeL t.args).take i) ∧ Below w.heap.size w wr ∧ BX t w.heap.size wr) (fun _ iv _ => t.args.length - (intOf iv).toNat)
    case atStart => exact ⟨0, 1, Nat.zero_le _, rfl, rfl, by simp [partsL], (Below.refl _ _).alloc (Nat.le_refl _) _, B0.out⟩
    case round =>
      obtain ⟨i, c, hi, rfl, rfl, hc, hB, hX⟩ := hrel
      rename World => wr
      have B := Lib.hid hB
      have X := Lib.hid hX
      have HC := Lib.hid hc
      clear hB hX hc B0
      obtain ⟨⟨a0, a1, a2, a3, a4, a5, a6⟩, _, al⟩ := id X.out.box
      by_cases hlt : i < t.args.length
      · have TA := ((HA.out.below B.out).2 _ (List.getElem_mem hlt)).more B.out.size
        have hht := Nat.le_trans (ht_mem (List.getElem_mem hlt)) HF.out
        have hkt : i < (treeL t.args).length := by rw [treeL_len]; exact hlt
        have hpp := partsL_get (l := treeL t.args) hkt
        have hp2 := partsL_take2 hkt
        have hp3 := partsL_mono' (treeL t.args) (i + 1)
        rw [treeL_get t.args i hlt] at hpp hp2
        have NC := Lib.hid (IH.out t.args[i] wr hht (by have := HP.out; omega) TA)
        have HC2 := Lib.hid (show c + t.args[i].tree.parts = 1 + partsL ((treeL t.args).take (i + 1)) by rw [hp2, HC.out]; omega)
        have HC3 : ((c : Int) + (t.args[i].tree.parts : Int)) ≤ 1000001 := by have h1 := HC2.out; have h2 := HP.out; omega
        obtain ⟨b, o, hadr, hb, e0, e1, e2, e3, e4, e5, e6⟩ := (HA.out.below B.out).at_ hlt
        rw [hadr] at a6 ⊢
        have i0 : (0 : Int) ≤ (i : Int) := by omega
        have i1 : (i : Int) < (t.args.length : Int) := by omega
        unfold RV.val at NC
        clear TA hht hkt hpp hp2 hp3 IH
        generalize t.args[i] = x at *
        generalize x.tree.parts = px at *
        generalize t.args.length = n at *
        go_wp2_with fail
        go_at_call 15
        refine NC.out.mono ?_
        rintro e w2 ⟨rfl, hb2⟩
        have B2 := Lib.hid (B.out.trans (hb2.mono B.out.size))
        have X2 := Lib.hid (X.out.then hb2)
        clear hb2 NC e0 e1 e2 e3 e4 e5 e6 a0 a1 a2 a3 a4 a5 a6
        go_wp2_with fail
        go_roundw
        case rel => exact ⟨i + 1, c + px, by omega, by go_num, by go_num, HC2.out, B2.out, X2.out⟩
        case measure => simp [intOf]; omega
      · obtain rfl : i = t.args.length := by omega
        have HE := Lib.hid (show (c : Int) = (t.tree.parts : Int) by rw [HC.out, HPE.out, List.take_of_length_le (by rw [treeL_len]; exact Nat.le_refl _)])
        have i1 : ¬ (t.args.length : Int) < (t.args.length : Int) := by omega
        clear hlt IH HC
        go_wp2_with fail
        go_ret
        exact ⟨by rw [HE.out]; rfl, B.out⟩

/- RichParts in plain terms; an exchange of two elements of seven cells each. -/

theorem deepL_get : ∀ {l : List RT} {a : RT}, a ∈ l → a.deep ≤ deepL l
  | b :: l, a, h => by
    rw [deepL]
    rcases List.mem_cons.1 h with rfl | h
    · omega
    · have := deepL_get h; omega
theorem partsL_mem : ∀ {l : List RT} {a : RT}, a ∈ l → a.parts ≤ partsL l
  | b :: l, a, h => by
    rw [partsL]
    rcases List.mem_cons.1 h with rfl | h
    · omega
    · have := partsL_mem h; omega
theorem okL_all : ∀ {l : List RT}, okL l = true ↔ ∀ a ∈ l, a.okB = true
  | [] => by simp [okL]
  | b :: l => by rw [okL, Bool.and_eq_true, okL_all (l := l)]; simp
/-- each part of what is whole is whole -/
theorem whole_sub {k : Int} {d : Dp} {l : List RT} (h : (RT.mk k d l).whole = true) {a : RT} (ha : a ∈ l) : a.whole = true := by
  unfold RT.whole at h ⊢
  simp only [Bool.and_eq_true, decide_eq_true_eq] at h ⊢
  obtain ⟨h1, h2, h3⟩ := h
  rw [RT.parts] at h2
  have g1 := partsL_mem ha
  have g2 := deepL_get ha
  by_cases hk : k = 1
  · rw [RT.okB, if_pos hk, Bool.and_eq_true] at h1
    cases l with
    | nil => simp at ha
    | cons => simp at h1
  · rw [RT.okB, if_neg hk] at h1
    rw [RT.deep, if_neg hk] at h3
    simp only [Bool.and_eq_true] at h1
    exact ⟨okL_all.1 h1.2.2.2 a ha, by omega, by omega⟩
/-- a part more, turned about -/
theorem whole_more {k : Int} {d : Dp} {l : List RT} {a m : RT} (h : (RT.mk k d (a :: l)).whole = true) (hk : k = 2 ∨ k = 3 ∨ k = 6) (hm : m.whole = true) (hm1 : m.parts = 1 ∧ m.deep = 0) :
    (RT.mk k d (m :: (l ++ [a]))).whole = decide ((RT.mk k d (a :: l)).parts + 1 ≤ 24) := by
  have hk1 : k ≠ 1 := by omega
  have hmk : mostK k = 24 := by unfold mostK; rw [if_neg (by omega), if_neg (by omega)]
  unfold RT.whole at h hm ⊢
  simp only [Bool.and_eq_true, decide_eq_true_eq] at h hm
  obtain ⟨h1, h2, h3⟩ := h
  rw [RT.okB, if_neg hk1] at h1
  simp only [Bool.and_eq_true, decide_eq_true_eq] at h1
  obtain ⟨h4, h5, ⟨h6, h7⟩, h8⟩ := h1
  rw [RT.parts] at h2
  rw [RT.deep, if_neg hk1] at h3
  have e1 : (RT.mk k d (m :: (l ++ [a]))).parts = (RT.mk k d (a :: l)).parts + 1 := by
    simp only [RT.parts, partsL, partsL_app, hm1.1]; omega
  have e2 : (RT.mk k d (m :: (l ++ [a]))).deep ≤ 8 := by
    simp only [RT.deep, if_neg hk1, deepL, deepL_app, hm1.2] at h3 ⊢; omega
  by_cases hp : (RT.mk k d (a :: l)).parts + 1 ≤ 24
  · have hl := partsL_len (a :: l)
    have hp' := hp
    rw [RT.parts] at hp'
    have e3 : (RT.mk k d (m :: (l ++ [a]))).okB = true := by
      rw [RT.okB, if_neg hk1]
      simp only [Bool.and_eq_true, decide_eq_true_eq]
      refine ⟨h4, h5, ⟨by simp, by rw [hmk]; simp only [List.length_cons, List.length_append, List.length_nil] at hl ⊢; omega⟩, ?_⟩
      rw [okL_all] at h8 ⊢
      intro x hx
      simp only [List.mem_cons, List.mem_append, List.not_mem_nil, or_false] at hx
      rcases hx with rfl | hx | rfl
      · exact hm.1
      · exact h8 x (by simp [hx])
      · exact h8 x (by simp)
    rw [e3, e1, Bool.true_and]
    rw [decide_eq_true hp, decide_eq_true ⟨hp, e2⟩]
  · rw [e1, decide_eq_false hp, decide_eq_false (fun h => hp h.1), Bool.and_false]
theorem atom_parts {m : RT} (h : m.whole = true) {d : Dp} {l : List RT} (he : m = .mk 1 d l) : m.parts = 1 ∧ m.deep = 0 := by
  subst he
  unfold RT.whole at h
  rw [RT.okB, if_pos rfl] at h
  simp only [Bool.and_eq_true] at h
  have hl : l = [] := by simpa using h.1.1
  subst hl
  exact ⟨by simp [RT.parts, partsL], by rw [RT.deep, if_pos rfl]⟩
theorem whole_args {k : Int} {d : Dp} {l : List RT} (h : (RT.mk k d l).whole = true) (hk : k = 2 ∨ k = 3 ∨ k = 6) : 2 ≤ l.length ∧ l.length ≤ 24 := by
  have hmk : mostK k = 24 := by unfold mostK; rw [if_neg (by omega), if_neg (by omega)]
  unfold RT.whole at h
  rw [RT.okB, if_neg (by omega)] at h
  simp only [Bool.and_eq_true, decide_eq_true_eq, hmk] at h
  exact h.1.2.2.1
/-- seven cells are written from a place on -/
def put7 (g o : Nat) (b0 b1 b2 b3 b4 b5 b6 : Value) (W : World) : World := ((((((W.setCell ⟨g, o, none⟩ b0).setCell ⟨g, o + 1, none⟩ b1).setCell ⟨g, o + 2, none⟩ b2).setCell ⟨g, o + 3, none⟩ b3).setCell ⟨g, o + 4, none⟩ b4).setCell ⟨g, o + 5, none⟩ b5).setCell ⟨g, o + 6, none⟩ b6
section
variable {g o : Nat} {b0 b1 b2 b3 b4 b5 b6 : Value} {W : World}
theorem put7_size : (put7 g o b0 b1 b2 b3 b4 b5 b6 W).heap.size = W.heap.size := by simp [put7, World.setCell]
theorem put7_block {k : Nat} (h : k ≠ g) : (put7 g o b0 b1 b2 b3 b4 b5 b6 W).heap[k]? = W.heap[k]? := by
  unfold put7
  rw [Below.heap_setCell _ _ _ _ h, Below.heap_setCell _ _ _ _ h, Below.heap_setCell _ _ _ _ h, Below.heap_setCell _ _ _ _ h, Below.heap_setCell _ _ _ _ h, Below.heap_setCell _ _ _ _ h, Below.heap_setCell _ _ _ _ h]
theorem put7_below {B : Nat} {a : World} (hg : B ≤ g) (h : Below B a W) : Below B a (put7 g o b0 b1 b2 b3 b4 b5 b6 W) := by
  unfold put7
  exact ((((((h.setCell (p := ⟨g, o, none⟩) hg _).setCell (p := ⟨g, o + 1, none⟩) hg _).setCell (p := ⟨g, o + 2, none⟩) hg _).setCell (p := ⟨g, o + 3, none⟩) hg _).setCell (p := ⟨g, o + 4, none⟩) hg _).setCell (p := ⟨g, o + 5, none⟩) hg _).setCell (p := ⟨g, o + 6, none⟩) hg _
theorem put7_other {k i : Nat} (h : k ≠ g ∨ i < o ∨ o + 7 ≤ i) : (put7 g o b0 b1 b2 b3 b4 b5 b6 W).cell? ⟨k, i, none⟩ = W.cell? ⟨k, i, none⟩ := by
  unfold put7
  have hne : ∀ j, j < 7 → (⟨g, o + j, none⟩ : Addr) ≠ ⟨k, i, none⟩ := fun j hj e => by injection e with e1 e2; omega
  rw [World.cell?_setCell_other _ _ _ _ (hne 6 (by omega)), World.cell?_setCell_other _ _ _ _ (hne 5 (by omega)), World.cell?_setCell_other _ _ _ _ (hne 4 (by omega)), World.cell?_setCell_other _ _ _ _ (hne 3 (by omega)), World.cell?_setCell_other _ _ _ _ (hne 2 (by omega)), World.cell?_setCell_other _ _ _ _ (hne 1 (by omega)), World.cell?_setCell_other _ ⟨g, o, none⟩ _ _ (hne 0 (by omega))]
theorem put7_at (h : ∀ j, j < 7 → ∃ u, W.cell? ⟨g, o + j, none⟩ = some u) : ∀ j u, [b0, b1, b2, b3, b4, b5, b6][j]? = some u → (put7 g o b0 b1 b2 b3 b4 b5 b6 W).cell? ⟨g, o + j, none⟩ = some u := by
  obtain ⟨u0, c0⟩ := h 0 (by omega)
  obtain ⟨u1, c1⟩ := h 1 (by omega)
  obtain ⟨u2, c2⟩ := h 2 (by omega)
  obtain ⟨u3, c3⟩ := h 3 (by omega)
  obtain ⟨u4, c4⟩ := h 4 (by omega)
  obtain ⟨u5, c5⟩ := h 5 (by omega)
  obtain ⟨u6, c6⟩ := h 6 (by omega)
  rw [Nat.add_zero] at c0
  unfold put7
  intro j u hu
  match j, hu with
  | 0, hu => cases hu; simp [go_sem, c0]
  | 1, hu => cases hu; simp [go_sem, c1]
  | 2, hu => cases hu; simp [go_sem, c2]
  | 3, hu => cases hu; simp [go_sem, c3]
  | 4, hu => cases hu; simp [go_sem, c4]
  | 5, hu => cases hu; simp [go_sem, c5]
  | 6, hu => cases hu; simp [go_sem, c6]
  | j + 7, hu => simp at hu
end
/-- a row whose first and last element were exchanged -/
theorem rd_swap {B c g : Nat} {a m : RV} {l : List RV} {W : World} (h : Rd encR 7 B (some ⟨g, 0, none⟩) c (a :: (l ++ [m])) W) :
    Rd encR 7 B (some ⟨g, 0, none⟩) c (m :: (l ++ [a])) (put7 g ((l.length + 1) * 7) (.int .u8 a.kind) (.string (bs a.dep.name)) (.int .u8 a.dep.op) (.int .i64 a.dep.evr.epoch) (.string (bs a.dep.evr.ver)) (.string (bs a.dep.evr.rel)) (.slice a.addr a.args.length a.cap)
      (put7 g 0 (.int .u8 m.kind) (.string (bs m.dep.name)) (.int .u8 m.dep.op) (.int .i64 m.dep.evr.epoch) (.string (bs m.dep.evr.ver)) (.string (bs m.dep.evr.rel)) (.slice m.addr m.args.length m.cap) W)) := by
  obtain ⟨h1, h2, h3⟩ := h
  have hlen : (a :: (l ++ [m])).length = l.length + 2 := by simp
  have at0 : ∀ k (hk : k < l.length + 2) j u, (encR ((a :: (l ++ [m]))[k]'(by omega)))[j]? = some u → W.cell? ⟨g, k * 7 + j, none⟩ = some u := fun k hk j u hu => by
    obtain ⟨b, off, e, hb, hc⟩ := h3 k (by omega)
    cases e
    have := hc j u hu
    rwa [Nat.zero_add] at this
  have hgB : g < B := by obtain ⟨b, off, e, hb, hc⟩ := h3 0 (by simp); cases e; exact hb
  have any : ∀ k (hk : k < l.length + 2) j, j < 7 → ∃ u, W.cell? ⟨g, k * 7 + j, none⟩ = some u := fun k hk j hj => by
    have : j < (encR ((a :: (l ++ [m]))[k]'(by omega))).length := hj
    exact ⟨_, at0 k hk j _ (List.getElem?_eq_getElem this)⟩
  refine ⟨by simpa using h1, h2, fun k hk => ⟨g, 0, rfl, hgB, fun j u hu => ?_⟩⟩
  have hk' : k < l.length + 2 := by simpa using hk
  have hj : j < 7 := (List.getElem?_eq_some_iff.1 hu).1
  rw [Nat.zero_add]
  by_cases k0 : k = 0
  · subst k0
    rw [put7_other (.inr (.inl (by omega)))]
    have := put7_at (b0 := .int .u8 m.kind) (b1 := .string (bs m.dep.name)) (b2 := .int .u8 m.dep.op) (b3 := .int .i64 m.dep.evr.epoch) (b4 := .string (bs m.dep.evr.ver)) (b5 := .string (bs m.dep.evr.rel)) (b6 := .slice m.addr m.args.length m.cap) (g := g) (o := 0) (W := W) (fun j hj => by have := any 0 (by omega) j hj; simpa using this) j u hu
    simpa using this
  · by_cases k1 : k = l.length + 1
    · subst k1
      have hu' : (encR a)[j]? = some u := by
        have e : (m :: (l ++ [a]))[l.length + 1]'hk = a := by simp
        rw [e] at hu; exact hu
      exact put7_at (fun j hj => by rw [put7_other (.inr (.inr (by omega)))]; exact any (l.length + 1) (by omega) j hj) j u hu'
    · rw [put7_other (.inr (.inl (by omega))), put7_other (.inr (.inr (by omega)))]
      refine at0 k hk' j u ?_
      have e : (a :: (l ++ [m]))[k]'(by omega) = (m :: (l ++ [a]))[k]'hk := by
        obtain ⟨q, rfl⟩ : ∃ q, k = q + 1 := ⟨k - 1, by omega⟩
        simp only [List.getElem_cons_succ]
        rw [List.getElem_append_left (by omega), List.getElem_append_left (by omega)]
      rw [e]; exact hu

/- RichParts: the copy, with a part more, in memory. -/

/-- two rich dependencies, each in a box -/
structure TwoX (w : World) (a b : RV) (m n : Nat) (W : World) : Prop where
  xa : BX a m W
  xb : BX b n W
  old : Below w.heap.size w W
  ri : RichIn W
theorem TwoX.then {w W W' : World} {a b : RV} {m n : Nat} (h : TwoX w a b m n W) (hb : Below W.heap.size W W') : TwoX w a b m n W' :=
  ⟨h.xa.then hb, h.xb.then hb, h.old.trans (hb.mono h.old.size), h.ri.below hb⟩
theorem TwoX.new {w : World} {a b : RV} (hI : RichIn w) (ha : RTree w.heap.size w a) (hb : RTree w.heap.size w b) : TwoX w a b w.heap.size (w.heap.size + 1) ((w.alloc (.cells #[.int .u8 a.kind, .string (bs a.dep.name), .int .u8 a.dep.op, .int .i64 a.dep.evr.epoch, .string (bs a.dep.evr.ver), .string (bs a.dep.evr.rel), .slice a.addr a.args.length a.cap] 29)).alloc (.cells #[.int .u8 b.kind, .string (bs b.dep.name), .int .u8 b.dep.op, .int .i64 b.dep.evr.epoch, .string (bs b.dep.evr.ver), .string (bs b.dep.evr.rel), .slice b.addr b.args.length b.cap] 29)) := by
  have h1 := BX.new ha
  have z : (w.alloc (.cells #[.int .u8 a.kind, .string (bs a.dep.name), .int .u8 a.dep.op, .int .i64 a.dep.evr.epoch, .string (bs a.dep.evr.ver), .string (bs a.dep.evr.rel), .slice a.addr a.args.length a.cap] 29)).heap.size = w.heap.size + 1 := by simp
  have b1 : Below w.heap.size w (w.alloc (.cells #[.int .u8 a.kind, .string (bs a.dep.name), .int .u8 a.dep.op, .int .i64 a.dep.evr.epoch, .string (bs a.dep.evr.ver), .string (bs a.dep.evr.rel), .slice a.addr a.args.length a.cap] 29)) := (Below.refl _ _).alloc (Nat.le_refl _) _
  generalize w.alloc (.cells #[.int .u8 a.kind, .string (bs a.dep.name), .int .u8 a.dep.op, .int .i64 a.dep.evr.epoch, .string (bs a.dep.evr.ver), .string (bs a.dep.evr.rel), .slice a.addr a.args.length a.cap] 29) = w1 at *
  have h2 := BX.new ((hb.keeps b1).more b1.size)
  rw [z] at h2
  exact ⟨h1.alloc _, h2, b1.alloc b1.size _, (hI.below b1).below ((Below.refl w1.heap.size _).alloc (Nat.le_refl _) _)⟩
/-- .. through a call, or a store, that leaves alone what was there up to a block -/
theorem TwoX.past {w W W' : World} {a b : RV} {m n : Nat} (h : TwoX w a b m n W) (ha : RTree w.heap.size w a) (hb0 : RTree w.heap.size w b) {B : Nat} (hm : m < B) (hn : n < B) (hB : w.heap.size ≤ B) (hI : RichIn w) (hb : Below B W W') : TwoX w a b m n W' :=
  have ho := h.old.trans (hb.mono hB)
  ⟨⟨h.xa.box.past (hb.mono hm), (ha.keeps ho).more ho.size⟩, ⟨h.xb.box.past (hb.mono hn), (hb0.keeps ho).more ho.size⟩, ho, hI.below ho⟩
theorem RTree.tq {B : Nat} {W : World} {t : RV} (h : RTree B W t) : TQ (fun b => b < B) W t := by
  induction h with
  | mk h1 h2 _ ih =>
    refine .mk h1 h2.1 h2.2.1 (fun k hk => ?_) ih
    obtain ⟨b, o, e, q, hc⟩ := h2.2.2 k hk
    exact ⟨b, o, e, q, hc⟩
/-- the copy x: its struct, its row (which may be written), what is below -/
structure XS (w : World) (a b : RV) (k : Int) (d : Dp) (m g cc : Nat) (l : List RV) (W : World) : Prop where
  two : TwoX w a b w.heap.size (w.heap.size + 1) W
  box : Box7 m (.int .u8 k) (.string (bs d.name)) (.int .u8 d.op) (.int .i64 d.evr.epoch) (.string (bs d.evr.ver)) (.string (bs d.evr.rel)) (.slice (some ⟨g, 0, none⟩) l.length cc) W
  row : Rd encR 7 W.heap.size (some ⟨g, 0, none⟩) cc l W
  fz : ∀ i, W.frozen? ⟨g, i, none⟩ = false
  tr : ∀ x ∈ l, TQ (fun b => b < W.heap.size ∧ b ≠ g) W x
  lt : w.heap.size + 2 ≤ g ∧ w.heap.size + 2 ≤ m ∧ g ≠ m ∧ g < W.heap.size
theorem frozen_own {w : World} {g : Nat} {cur : Array Value} {e : TypeId} (h : w.heap[g]? = some (.cells cur e (0, 0))) (i : Nat) : w.frozen? ⟨g, i, none⟩ = false := by
  simp [World.frozen?, h]
theorem XS.start {w w7 w8 w11 : World} {a b : RV} {k : Int} {d : Dp} {A : Option Addr} {c : Nat} {l : List RV} {v' : Value} {o1 o2 : Obj} (hI : RichIn w) (ha : RTree w.heap.size w a) (hb : RTree w.heap.size w b)
    (ht : TwoX w a b w.heap.size (w.heap.size + 1) w8) (h7 : w.heap.size + 2 ≤ w7.heap.size) (h78 : w7.heap.size ≤ w8.heap.size) (hown : Own encR 7 w7.heap.size 29 (.slice A l.length c) l w8)
    (htr : ∀ x ∈ l, TQ (fun q => w7.heap.size ≤ q ∧ q < w8.heap.size ∧ (Value.slice A l.length c).ownBlock ≠ some q) w8 x)
    (hbx : Box7 w8.heap.size (.int .u8 k) (.string (bs d.name)) (.int .u8 d.op) (.int .i64 d.evr.epoch) (.string (bs d.evr.ver)) (.string (bs d.evr.rel)) (.slice A l.length c) (w8.alloc o1))
    (ho : w11.ownsRow w7.heap.size 29 7 v' (l.length + 1) (l.flatMap encR ++ encR b)) (hg : ((w8.alloc o1).alloc o2).grownBy w11 (Value.slice A l.length c).ownBlock)
    (hv : v'.ownBlock = (Value.slice A l.length c).ownBlock ∨ v'.ownBlock = some ((w8.alloc o1).alloc o2).heap.size) :
    ∃ g cc, v' = .slice (some ⟨g, 0, none⟩) (l.length + 1) cc ∧ XS w a b k d w8.heap.size g cc (l ++ [b]) (w11.setCell ⟨w8.heap.size, 6, none⟩ v') := by
  have z1 : (w8.alloc o1).heap.size = w8.heap.size + 1 := by simp
  have z2 : ((w8.alloc o1).alloc o2).heap.size = w8.heap.size + 2 := by simp
  have hz := hg.size
  have hr : ∀ q, (Value.slice A l.length c).ownBlock = some q → w7.heap.size ≤ q ∧ q < w8.heap.size := fun q e => ⟨(World.ownsRow.lt hown q e).1, (World.ownsRow.lt hown q e).2⟩
  have ho' := ho
  obtain ⟨hxs, hh | ⟨g, cc, cur, hv', hgb, hgh, hn, hcm, hcs, hct⟩⟩ := ho'
  · exact absurd hh.2 (by omega)
  have hvg : v'.ownBlock = some g := by rw [hv']; rfl
  have hgm : g ≠ w8.heap.size := by
    rcases hv with e | e
    · rw [hvg] at e; have := hr g e.symm; omega
    · rw [hvg] at e; have := Option.some.inj e; omega
  have hgl : g < w11.heap.size := (Array.getElem?_eq_some_iff.1 hgh).1
  have blk : ∀ q, q < w8.heap.size → (Value.slice A l.length c).ownBlock ≠ some q → w11.heap[q]? = w8.heap[q]? := fun q hq hne =>
    (hg.block q (by omega) (fun e => hne e.symm)).trans ((Below.heap_alloc _ _ _ (by omega)).trans (Below.heap_alloc _ _ _ hq))
  have hset : ∀ q, q ≠ w8.heap.size → (w11.setCell ⟨w8.heap.size, 6, none⟩ v').heap[q]? = w11.heap[q]? := fun q hq => Below.heap_setCell _ _ _ _ hq
  have hzs : (w11.setCell ⟨w8.heap.size, 6, none⟩ v').heap.size = w11.heap.size := by simp [World.setCell]
  have hG : ∀ {B : Nat}, B ≤ w7.heap.size → Below B w8 (w11.setCell ⟨w8.heap.size, 6, none⟩ v') := fun hB =>
    ((((Below.refl _ w8).alloc (by omega) o1).alloc (by omega) o2).grown hg (by omega) (fun q e => by have := hr q e; omega)).setCell (p := ⟨w8.heap.size, 6, none⟩) (by show _ ≤ w8.heap.size; omega) v'
  have hgne : ∀ q, q < w8.heap.size → (Value.slice A l.length c).ownBlock ≠ some q → q ≠ g := fun q hq hne e => by
    rcases hv with e2 | e2
    · rw [hvg] at e2; exact hne (by rw [← e2, e])
    · rw [hvg] at e2; have := Option.some.inj e2; omega
  refine ⟨g, cc, hv', ht.past ha hb (B := w7.heap.size) (by omega) (by omega) (by omega) hI (hG (Nat.le_refl _)), ?_, ?_, ?_, ?_, ?_⟩
  · have h6 : Box7 w8.heap.size (.int .u8 k) (.string (bs d.name)) (.int .u8 d.op) (.int .i64 d.evr.epoch) (.string (bs d.evr.ver)) (.string (bs d.evr.rel)) (.slice A l.length c) w11 := by
      have hb6 : w11.heap[w8.heap.size]? = (w8.alloc o1).heap[w8.heap.size]? := (hg.block w8.heap.size (by omega) (fun e => by have := hr _ e.symm; omega)).trans (Below.heap_alloc _ _ _ (by omega))
      have hc : ∀ i, w11.cell? ⟨w8.heap.size, i, none⟩ = (w8.alloc o1).cell? ⟨w8.heap.size, i, none⟩ := fun i => World.cell?_of_block (w := w8.alloc o1) hb6
      have hf : ∀ i, w11.frozen? ⟨w8.heap.size, i, none⟩ = (w8.alloc o1).frozen? ⟨w8.heap.size, i, none⟩ := fun i => World.frozen?_of_block (w := w8.alloc o1) hb6
      obtain ⟨⟨h0, h1, h2, h3, h4, h5, h6⟩, ⟨f0, f1, f2, f3, f4, f5, f6⟩, hl⟩ := hbx
      exact ⟨⟨(hc 0).trans h0, (hc 1).trans h1, (hc 2).trans h2, (hc 3).trans h3, (hc 4).trans h4, (hc 5).trans h5, (hc 6).trans h6⟩, ⟨(hf 0).trans f0, (hf 1).trans f1, (hf 2).trans f2, (hf 3).trans f3, (hf 4).trans f4, (hf 5).trans f5, (hf 6).trans f6⟩, by omega⟩
    have := box7_set6 h6 v'
    rw [hv'] at this ⊢
    rw [List.length_append]
    exact this
  · have hown' : Own encR 7 w7.heap.size 29 v' (l ++ [b]) (w11.setCell ⟨w8.heap.size, 6, none⟩ v') := own_keep (Own.snoc ho) (Nat.le_refl _) (fun q e => hset q (by rw [hvg] at e; have := Option.some.inj e; omega))
    obtain ⟨A', c', e, hrd⟩ := hown'.rd encR_len
    rw [hv', show (l ++ [b]).length = l.length + 1 by simp] at e
    cases e
    exact hrd
  · intro i
    exact frozen_own (cur := cur) (by rw [hset g hgm]; exact hgh) i
  · intro x hx
    rcases List.mem_append.1 hx with hx | hx
    · exact (htr x hx).keep (fun q hq => ⟨by omega, hgne q hq.2.1 hq.2.2⟩) fun q hq => (hset q (by omega)).trans (blk q hq.2.1 hq.2.2)
    · simp at hx; subst hx
      exact (hb.keeps (ht.old.trans (hG (by omega)))).tq.keep (fun q hq => ⟨by have := ht.old.size; omega, by omega⟩) fun q hq => rfl
  · exact ⟨by omega, by have := h78; omega, hgm, by omega⟩
/-- .. its first and last part exchanged -/
theorem XS.swap {w W : World} {a b x y : RV} {k : Int} {d : Dp} {m g cc : Nat} {l : List RV} (hI : RichIn w) (ha : RTree w.heap.size w a) (hb : RTree w.heap.size w b) (hd : d.wf) (h : XS w a b k d m g cc (x :: (l ++ [y])) W) {W' : World}
    (hW : W' = put7 g ((l.length + 1) * 7) (.int .u8 x.kind) (.string (bs x.dep.name)) (.int .u8 x.dep.op) (.int .i64 x.dep.evr.epoch) (.string (bs x.dep.evr.ver)) (.string (bs x.dep.evr.rel)) (.slice x.addr x.args.length x.cap)
      (put7 g 0 (.int .u8 y.kind) (.string (bs y.dep.name)) (.int .u8 y.dep.op) (.int .i64 y.dep.evr.epoch) (.string (bs y.dep.evr.ver)) (.string (bs y.dep.evr.rel)) (.slice y.addr y.args.length y.cap) W)) :
    TwoX w a b w.heap.size (w.heap.size + 1) W' ∧ BX (.node k d (some ⟨g, 0, none⟩) cc (y :: (l ++ [x]))) m W' := by
  obtain ⟨l1, l2, l3, l4⟩ := h.lt
  have hbl : ∀ {B : Nat}, B ≤ g → Below B W W' := fun hB => by rw [hW]; exact put7_below hB (put7_below hB (Below.refl _ _))
  have hz : W'.heap.size = W.heap.size := by rw [hW, put7_size, put7_size]
  have hblk : ∀ q, q ≠ g → W'.heap[q]? = W.heap[q]? := fun q hq => by rw [hW, put7_block hq, put7_block hq]
  refine ⟨h.two.past ha hb (B := g) (by omega) (by omega) (by omega) hI (hbl (Nat.le_refl _)), ?_, ?_⟩
  · have hc : ∀ i, W'.cell? ⟨m, i, none⟩ = W.cell? ⟨m, i, none⟩ := fun i => World.cell?_of_block (w := W) (hblk m (fun e => l3 e.symm))
    have hf : ∀ i, W'.frozen? ⟨m, i, none⟩ = W.frozen? ⟨m, i, none⟩ := fun i => World.frozen?_of_block (w := W) (hblk m (fun e => l3 e.symm))
    obtain ⟨⟨h0, h1, h2, h3, h4, h5, h6⟩, ⟨f0, f1, f2, f3, f4, f5, f6⟩, hl⟩ := h.box
    refine ⟨⟨(hc 0).trans h0, (hc 1).trans h1, (hc 2).trans h2, (hc 3).trans h3, (hc 4).trans h4, (hc 5).trans h5, ?_⟩, ⟨(hf 0).trans f0, (hf 1).trans f1, (hf 2).trans f2, (hf 3).trans f3, (hf 4).trans f4, (hf 5).trans f5, (hf 6).trans f6⟩, by omega⟩
    have h6' := (hc 6).trans h6
    simpa [RV.args, RV.addr, RV.cap] using h6'
  · have hrow : Rd encR 7 W'.heap.size (some ⟨g, 0, none⟩) cc (y :: (l ++ [x])) W' := by rw [hz, hW]; exact rd_swap h.row
    refine TQ.rtree (Q := fun q => q < W'.heap.size) (.mk hd hrow.1 hrow.2.1 (fun q hq => ?_) (fun t ht => ?_)) (fun q hq => hq)
    · obtain ⟨bb, o, e, hlt, hcc⟩ := hrow.2.2 q hq
      exact ⟨bb, o, e, hlt, hcc⟩
    · have hm : t ∈ x :: (l ++ [y]) := by
        have : t ∈ y :: (l ++ [x]) := ht
        simp only [List.mem_cons, List.mem_append, List.not_mem_nil, or_false] at this ⊢
        rcases this with h | h | h <;> simp [h]
      exact (h.tr t hm).keep (fun q hq => by omega) fun q hq => hblk q hq.2
end Go.Proofs.YtpnnhhgojijlbaaDoor
