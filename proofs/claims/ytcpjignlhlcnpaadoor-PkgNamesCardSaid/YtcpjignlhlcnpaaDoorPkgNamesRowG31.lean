/- RichCopy9 -/
import Derived.Test.YtcpjignlhlcnpaaDoorPkgNamesRowG24
set_option linter.unusedSimpArgs false
set_option linter.unusedVariables false
/- Walk: a rich dependency in new memory (chandleryref09.Copy). -/

namespace Go.Proofs.YtcpjignlhlcnpaaDoor
open Go.RowKit Go.Shelf
set_option linter.unusedVariables false

set_option maxRecDepth 100000 in
set_option maxHeartbeats 16000000 in
theorem rcopy9_any : ∀ (f : Nat) (t : RV) (w : World), t.ht ≤ f → t.tree.parts ≤ 1000000 → RTree w.heap.size w t → Calls Tryd.prog 43 #[t.val] w (CopyPost t w)
  | 0, t, w, hf, _, _ => absurd hf (by rw [ht_args]; omega)
  | f + 1, t, w, hf, hp, ha => by
    have IH := Lib.hid (fun x W h1 h2 h3 => rcopy9_any f x W h1 h2 h3)
    have HA := Lib.hid ha.rrow
    have HF := Lib.hid (show htL t.args ≤ f by rw [ht_args] at hf; omega)
    have HP := Lib.hid (show 1 + partsL (treeL t.args) ≤ 1000000 by rw [tree_parts t, RT.parts] at hp; exact hp)
    have HL := Lib.hid (show t.args.length ≤ 999999 by have h1 := HP.out; have h2 := partsL_len (treeL t.args); rw [treeL_len] at h2; omega)
    have hm := ha.row.len
    have C0 := Lib.hid (Cp.start (w := w) (t := t))
    have hz0 : (0 : Nat) = 0 := rfl
    unfold RV.val
    clear ha hf hp hz0
    go_enter Tryd.func43, Tryd.ntmps43
    go_wp2_with fail
    go_loopw [4] (fun iv wr => ∃ (i : Nat) (l : List RV) (v : Value), i ≤ t.args.length ∧ iv = .int .i64 (i : Int) ∧ treeL l = (treeL t.args).take i ∧ Cp w t l v wr) (fun iv _ => t.args.length - (intOf iv).toNat)
    case atStart => exact ⟨0, [], .slice none 0 0, Nat.zero_le _, rfl, by simp [treeL], C0.out⟩
    case round =>
      obtain ⟨i, l, v, hi, rfl, hl, hC⟩ := hrel
      rename World => wr
      have C := Lib.hid hC
      have HTL := Lib.hid hl
      clear hC hl C0
      obtain ⟨⟨a0, a1, a2, a3, a4, a5, a6⟩, _, al⟩ := id C.out.inp
      by_cases hlt : i < t.args.length
      · have TA := ((HA.out.below C.out.old).2 _ (List.getElem_mem hlt)).more C.out.old.size
        have hwf := TA.wf
        have hht := Nat.le_trans (ht_mem (List.getElem_mem hlt)) HF.out
        have hkt : i < (treeL t.args).length := by rw [treeL_len]; exact hlt
        have hpp := partsL_get (l := treeL t.args) hkt
        rw [treeL_get t.args i hlt] at hpp
        have HC := Lib.hid (fun (W : World) (hb : Below wr.heap.size wr W) => (IH.out t.args[i] W hht (by have := HP.out; omega) ((TA.keeps hb).more hb.size)).mono fun e w' h => CopyPost.tq hwf h)
        obtain ⟨b, o, hadr, hb, e0, e1, e2, e3, e4, e5, e6⟩ := (HA.out.below C.out.old).at_ hlt
        rw [hadr] at a6 ⊢
        have HTN := Lib.hid (show ∀ rv : RV, rv.tree = t.args[i].tree → treeL (l ++ [rv]) = (treeL t.args).take (i + 1) from fun rv h => by rw [treeL_app, HTL.out, take_snoc _ _ hkt, treeL_get t.args i hlt]; simp only [treeL, h])
        have HLL := Lib.hid (show l.length ≤ 999999 by have h1 := congrArg List.length HTL.out; rw [treeL_len, List.length_take, treeL_len] at h1; have := HL.out; omega)
        have HV := Lib.hid (show ∀ b, v.ownBlock = some b → b < wr.drew.heap.size from fun b hb => (World.ownsRow.lt C.out.own b hb).2)
        obtain ⟨⟨g0, g1, g2, g3, g4, g5, g6⟩, ⟨f0, f1, f2, f3, f4, f5, f6⟩, gl⟩ := id C.out.out
        have i0 : (0 : Int) ≤ (i : Int) := by omega
        have i1 : (i : Int) < (t.args.length : Int) := by omega
        unfold RV.val at HC
        clear TA hwf hht hkt hpp IH
        generalize t.args[i] = x at *
        generalize t.args.length = n at *
        go_wp2_with fail
        go_region_law (first | (refine step_append_rd (P := Tryd.prog) _ rfl _ _ 26 rfl (w.heap.size + 3) 28 _ _ 7 _ (by rfl) (by rfl) (by rfl) (by rfl) (by rfl) (by rfl) (by decide) encR_len encR_one v _ _ rfl (World.ownsRow.alloc C8.out.own _) (w8.heap.size + 1) (some ⟨w8.heap.size, 0, none⟩) 1 [rv2] 1 rfl rfl (rd_lit w8 rv2) (by have := HLL.out; simp; omega) (by decide) (by have := C8.out.old.size; have := C8.out.out.2.2; simp; omega) ?_; intro v2 w9 ho2 hg2 hv2; simp only [List.length_cons, List.length_nil, Nat.zero_add, List.flatMap_cons, List.flatMap_nil, List.append_nil] at ho2; obtain ⟨y6, z6, zl⟩ := C8.out.held hg2; obtain ⟨AA, cc, rfl⟩ := own_shape ho2) | (go_simp; go_at_call 43; refine (HC.out _ (Below.refl _ _).drew).mono ?_; rintro en w8 ⟨rv2, rfl, hrt2, hT2, hB8⟩; have C8 := Lib.hid ((C.out.call (Below.refl _ _).drew).call hB8); have q6 := C8.out.out.1.2.2.2.2.2.2; have el := C8.out.out.2.2; have HT2 := Lib.hid hT2; have HRT := Lib.hid hrt2; clear hT2 hB8 hrt2; (try unfold RV.val); (try dsimp only)))
        all_goals
          have C9 := Lib.hid (C8.out.arg HT2.out (by have := C.out.out.2.2; show w.heap.size + 3 ≤ wr.heap.size; omega) HV.out ho2 hg2 hv2)
          have HS := Lib.hid (HTN.out rv2 HRT.out)
          clear y6 z6 zl q6 el ho2 hg2 hv2 HT2 C8 a0 a1 a2 a3 a4 a5 a6 al e0 e1 e2 e3 e4 e5 e6 g0 g1 g2 g3 g4 g5 g6 f0 f1 f2 f3 f4 f5 f6 gl
          generalize w9.setCell ⟨w.heap.size + 2, 6, none⟩ (.slice AA (l.length + 1) cc) = w10 at *
          go_wp2_with fail
          go_roundw
          case rel => exact ⟨i + 1, l ++ [rv2], .slice AA (l.length + 1) cc, by omega, by go_num, HS.out, C9.out⟩
          case measure => simp [intOf]; omega
      · obtain rfl : i = t.args.length := by omega
        have HFULL := Lib.hid (show treeL l = treeL t.args by rw [HTL.out, List.take_of_length_le (by rw [treeL_len]; exact Nat.le_refl _)])
        have i1 : ¬ (t.args.length : Int) < (t.args.length : Int) := by omega
        obtain ⟨AA, cc, hv⟩ := own_shape C.out.own
        subst hv
        obtain ⟨⟨g0, g1, g2, g3, g4, g5, g6⟩, _, gl⟩ := id C.out.out
        obtain ⟨⟨r0, r1, r2, r3, r4, r5, r6⟩, ⟨k0, k1, k2, k3, k4, k5, k6⟩, rl⟩ := id C.out.res
        clear hlt IH HTL
        go_wp2_with fail
        have XF := C.out.res.store (.int .u8 t.kind) (.string (bs t.dep.name)) (.int .u8 t.dep.op) (.int .i64 t.dep.evr.epoch) (.string (bs t.dep.evr.ver)) (.string (bs t.dep.evr.rel)) (.slice AA l.length cc)
        have hz := store7_size (w.heap.size + 1) (.int .u8 t.kind) (.string (bs t.dep.name)) (.int .u8 t.dep.op) (.int .i64 t.dep.evr.epoch) (.string (bs t.dep.evr.ver)) (.string (bs t.dep.evr.rel)) (.slice AA l.length cc) wr
        have hk : ∀ b, b ≠ w.heap.size + 1 → (store7 (w.heap.size + 1) (.int .u8 t.kind) (.string (bs t.dep.name)) (.int .u8 t.dep.op) (.int .i64 t.dep.evr.epoch) (.string (bs t.dep.evr.ver)) (.string (bs t.dep.evr.rel)) (.slice AA l.length cc) wr).heap[b]? = wr.heap[b]? := fun b hb => store7_block _ _ _ _ _ _ _ _ _ hb
        unfold store7 at XF
        obtain ⟨⟨j0, j1, j2, j3, j4, j5, j6⟩, _⟩ := XF
        refine bodyPost_ret (v := .agg #[.int .u8 t.kind, .string (bs t.dep.name), .int .u8 t.dep.op, .int .i64 t.dep.evr.epoch, .string (bs t.dep.evr.ver), .string (bs t.dep.evr.rel), .slice AA l.length cc]) (by simp [results, Tryd.results43, go_sem, j0, j1, j2, j3, j4, j5, j6]; try rfl) rfl ?_
        exact ⟨AA, cc, l, rfl, HFULL.out, own_keep C.out.own (by omega) (fun g hg => hk g (by have := (World.ownsRow.lt C.out.own g hg).1; omega)),
          fun a ha => (C.out.tr a ha).keep (fun b hq => ⟨by omega, by have h1 := hq.2.1; exact Nat.lt_of_lt_of_eq h1 hz.symm, hq.2.2⟩) fun b hq => hk b (by omega),
          C.out.old.trans (store7_below (by omega) (Below.refl _ _) _ _ _ _ _ _ _)⟩
end Go.Proofs.YtcpjignlhlcnpaaDoor
