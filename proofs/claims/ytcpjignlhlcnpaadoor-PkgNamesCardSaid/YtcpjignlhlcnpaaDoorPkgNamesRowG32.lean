/- RefCopied -/
import Derived.Test.YtcpjignlhlcnpaaDoorPkgNamesRowG31
set_option linter.unusedSimpArgs false
set_option linter.unusedVariables false
/- Walk: rich dependencies in new memory (chandleryref10.copied). -/

namespace Go.Proofs.YtcpjignlhlcnpaaDoor
open Go.RowKit Go.Shelf
set_option linter.unusedVariables false

/-- where copied stands -/
structure CS (w : World) (l : List RV) (v : Value) (wr : World) : Prop where
  old : Below w.heap.size w wr
  own : Own encR 7 w.heap.size 28 v l wr
  tr : ∀ a ∈ l, TQ (fun b => w.heap.size ≤ b ∧ b < wr.heap.size ∧ v.ownBlock ≠ some b) wr a
theorem CS.call {w wr w' : World} {l : List RV} {v : Value} (h : CS w l v wr) (hb : Below wr.heap.size wr w') : CS w l v w' where
  old := h.old.trans (hb.mono h.old.size)
  own := own_keep h.own (Nat.le_refl _) (fun g hg => hb.block g (World.ownsRow.lt h.own g hg).2)
  tr := fun a ha => (h.tr a ha).keep (fun b hq => ⟨hq.1, Nat.lt_of_lt_of_le hq.2.1 hb.size, hq.2.2⟩) fun b hq => hb.block b hq.2.1
theorem CS.arg {w w' wr w6 : World} {l : List RV} {v v' : Value} {rv : RV} {cs : Obj} (h : CS w l v wr) (hT : TQ (fun b => w'.heap.size ≤ b ∧ b < wr.heap.size) wr rv) (hw : w.heap.size ≤ w'.heap.size) (hv : ∀ b, v.ownBlock = some b → b < w'.heap.size)
    (ho : w6.ownsRow w.heap.size 28 7 v' (l.length + 1) (l.flatMap encR ++ encR rv)) (hg : (wr.alloc cs).grownBy w6 v.ownBlock) (hv' : v'.ownBlock = v.ownBlock ∨ v'.ownBlock = some (wr.alloc cs).heap.size) : CS w (l ++ [rv]) v' w6 := by
  have hsz : wr.heap.size + 1 = (wr.alloc cs).heap.size := by simp
  have hr : ∀ q, v.ownBlock = some q → w.heap.size ≤ q := fun q e => (World.ownsRow.lt h.own q e).1
  have hz0 := h.old.size
  have hz6 := hg.size
  have hA : Below w.heap.size wr w6 := ((Below.refl _ _).alloc hz0 cs).trans ((Below.refl _ _).grown hg (by omega) (fun k e => hr k e))
  have hblk : ∀ b, b < wr.heap.size → v.ownBlock ≠ some b → w6.heap[b]? = wr.heap[b]? := fun b hb hne => (hg.block b (by omega) (fun e => hne e.symm)).trans (Below.heap_alloc _ _ _ hb)
  have hQ : ∀ b, b < wr.heap.size → v.ownBlock ≠ some b → v'.ownBlock ≠ some b := fun b hb hne => by
    rcases hv' with e | e
    · rw [e]; exact hne
    · rw [e]; simp; omega
  refine ⟨h.old.trans hA, Own.snoc ho, fun a ha => ?_⟩
  rcases List.mem_append.1 ha with ha | ha
  · exact (h.tr a ha).keep (fun b hq => ⟨hq.1, by omega, hQ b hq.2.1 hq.2.2⟩) fun b hq => hblk b hq.2.1 hq.2.2
  · simp at ha; subst ha
    exact hT.keep (fun b hq => ⟨by omega, by omega, hQ b hq.2 (fun e => by have := hv b e; omega)⟩) fun b hq => hblk b hq.2 (fun e => by have := hv b e; omega)
def CopiedPost (l : List RV) (w : World) (e : Ending) (w' : World) : Prop := ∃ (A : Option Addr) (c : Nat) (l' : List RV), e = .returned (.slice A l'.length c) ∧ treeL l' = treeL l ∧ CS w l' (.slice A l'.length c) w'
set_option maxRecDepth 100000 in
set_option maxHeartbeats 16000000 in
theorem copied_any (l : List RV) (A : Option Addr) (c : Nat) (w : World) (hp : partsL (treeL l) ≤ 900000) (hl : RRow w.heap.size w A c l) : Calls Tryd.prog 21 #[.slice A l.length c] w (CopiedPost l w) := by
  have HA := Lib.hid hl
  have HP := Lib.hid hp
  have HN := Lib.hid (show l.length ≤ 900000 by have h1 := partsL_len (treeL l); rw [treeL_len] at h1; omega)
  have hm : l.length ≤ 9223372036854775807 := by have := HN.out; omega
  clear hl hp
  go_enter Tryd.func21, Tryd.ntmps21
  go_wp2_with fail
  go_loopw [3, 4] (fun v iv wr => ∃ (i : Nat) (l' : List RV), i ≤ l.length ∧ iv = .int .i64 (i : Int) ∧ treeL l' = (treeL l).take i ∧ CS w l' v wr) (fun _ iv _ => l.length - (intOf iv).toNat)
  case atStart => exact ⟨0, [], Nat.zero_le _, rfl, by simp [treeL], Below.refl _ _, Own.nil_ _ _ _, fun a ha => by simp at ha⟩
  case round =>
    obtain ⟨i, l', hi, rfl, htl, hC⟩ := hrel
    rename World => wr
    rename Value => v
    have C := Lib.hid hC
    have HTL := Lib.hid htl
    clear hC htl
    obtain ⟨AA, cc, hv⟩ := own_shape C.out.own
    subst hv
    by_cases hlt : i < l.length
    · have TA := ((HA.out.below C.out.old).2 _ (List.getElem_mem hlt)).more C.out.old.size
      have hwf := TA.wf
      have hkt : i < (treeL l).length := by rw [treeL_len]; exact hlt
      have hpp := partsL_get (l := treeL l) hkt
      rw [treeL_get l i hlt] at hpp
      have HC := Lib.hid ((rcopy9_any l[i].ht l[i] wr (Nat.le_refl _) (by have := HP.out; omega) TA).mono fun e w' h => CopyPost.tq hwf h)
      obtain ⟨b, o, rfl, hb, e0, e1, e2, e3, e4, e5, e6⟩ := (HA.out.below C.out.old).at_ hlt
      have HTN := Lib.hid (show ∀ rv : RV, rv.tree = l[i].tree → treeL (l' ++ [rv]) = (treeL l).take (i + 1) from fun rv h => by rw [treeL_app, HTL.out, take_snoc _ _ hkt, treeL_get l i hlt]; simp only [treeL, h])
      have HLL := Lib.hid (show l'.length ≤ 900000 by have h1 := congrArg List.length HTL.out; rw [treeL_len, List.length_take, treeL_len] at h1; have := HN.out; omega)
      have i0 : (0 : Int) ≤ (i : Int) := by omega
      have i1 : (i : Int) < (l.length : Int) := by omega
      unfold RV.val at HC
      clear TA hwf hkt hpp
      generalize l[i] = x at *
      generalize l.length = n at *
      go_wp2_with fail
      go_at_call 43
      refine HC.out.mono ?_
      rintro en w8 ⟨rv2, rfl, hrt2, hT2, hB8⟩
      have C8 := Lib.hid (C.out.call hB8)
      have HS := Lib.hid (HTN.out rv2 hrt2)
      have HT2 := Lib.hid hT2
      have HV := Lib.hid (show ∀ b, (Value.slice AA l'.length cc).ownBlock = some b → b < wr.heap.size from fun b hb => (World.ownsRow.lt C.out.own b hb).2)
      have RL := Lib.hid (rd_lit w8 rv2)
      clear hB8 hT2 hrt2 e0 e1 e2 e3 e4 e5 e6 HC HTN
      go_wp2_with (at_builtin; refine wpList_append_rd (P := Tryd.prog) _ rfl _ _ 26 rfl w.heap.size 28 _ _ 7 _ (by rfl) (by rfl) (by rfl) (by rfl) (by rfl) (by rfl) (by decide) encR_len encR_one _ l'.length (l'.flatMap encR) rfl (World.ownsRow.alloc C8.out.own _) _ (some ⟨w8.heap.size, 0, none⟩) 1 [rv2] 1 rfl rfl RL.out (by have := HLL.out; simp; omega) (by decide) (by have := C8.out.old.size; simp; omega) ?_; intro v2 w9 ho2 hg2 hv2; simp only [List.length_cons, List.length_nil, Nat.zero_add, List.flatMap_cons, List.flatMap_nil, List.append_nil] at ho2; have C9 := Lib.hid (C8.out.arg HT2.out C.out.old.size HV.out ho2 hg2 hv2); obtain ⟨A2, c2, rfl⟩ := own_shape ho2; clear ho2 hg2 hv2)
      go_roundw
      case rel => exact ⟨i + 1, l' ++ [rv2], by omega, by go_num, HS.out, C9.out⟩
      case measure => simp [intOf]; omega
    · obtain rfl : i = l.length := by omega
      have HE := Lib.hid (show treeL l' = treeL l by rw [HTL.out, List.take_of_length_le (by rw [treeL_len]; exact Nat.le_refl _)])
      have i1 : ¬ (l.length : Int) < (l.length : Int) := by omega
      clear hlt
      go_wp2_with fail
      go_ret
      exact ⟨AA, cc, l', rfl, HE.out, C.out⟩
end Go.Proofs.YtcpjignlhlcnpaaDoor
