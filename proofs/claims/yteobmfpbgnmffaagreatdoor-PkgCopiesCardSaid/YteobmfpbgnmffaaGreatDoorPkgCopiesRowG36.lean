/- R9Same -/
import Derived.Test.YteobmfpbgnmffaaGreatDoorPkgCopiesRowG14
set_option linter.unusedSimpArgs false
set_option linter.unusedVariables false
/- Walks: are two rich dependencies the same (chandleryref09.Same). -/

namespace Go.Proofs.YteobmfpbgnmffaaGreatDoor
open Go.RowKit Go.Shelf
set_option linter.unusedVariables false

set_option maxRecDepth 100000 in
set_option maxHeartbeats 16000000 in
theorem r9same_any : ∀ (f : Nat) (a b : RV) (w : World), a.ht ≤ f → RTree w.heap.size w a → RTree w.heap.size w b → Calls Tryz.prog 73 #[a.val, b.val] w fun e w' => e = .returned (.bool (sameT a.tree b.tree)) ∧ Below w.heap.size w w'
  | 0, a, b, w, hf, _, _ => absurd hf (by rw [ht_args]; omega)
  | f + 1, a, b, w, hf, ha, hb => by
    have IH := Lib.hid (fun x y W h1 h2 h3 => r9same_any f x y W h1 h2 h3)
    have HA := Lib.hid ha.rrow
    have HB := Lib.hid hb.rrow
    have HF := Lib.hid (show htL a.args ≤ f by rw [ht_args] at hf; omega)
    have HR : Hid (sameT a.tree b.tree = ((decide (a.kind = b.kind) && decide ((bs a.dep.name).toList = (bs b.dep.name).toList) && decide (a.dep.op = b.dep.op) && decide (a.dep.evr.epoch = b.dep.evr.epoch) && decide ((bs a.dep.evr.ver).toList = (bs b.dep.evr.ver).toList) && decide ((bs a.dep.evr.rel).toList = (bs b.dep.evr.rel).toList)) && sameL (treeL a.args) (treeL b.args))) := Lib.hid (by rw [tree_parts a, tree_parts b, sameT, dec_bs a.dep.name, dec_bs a.dep.evr.ver, dec_bs a.dep.evr.rel])
    have hm1 := ha.row.len
    have hm2 := hb.row.len
    clear ha hb hf
    unfold RV.val
    generalize a.kind = k1 at *
    generalize b.kind = k2 at *
    generalize bs a.dep.name = n1 at *
    generalize bs b.dep.name = n2 at *
    generalize a.dep.op = o1 at *
    generalize b.dep.op = o2 at *
    generalize a.dep.evr.epoch = e1 at *
    generalize b.dep.evr.epoch = e2 at *
    generalize bs a.dep.evr.ver = v1 at *
    generalize bs b.dep.evr.ver = v2 at *
    generalize bs a.dep.evr.rel = r1 at *
    generalize bs b.dep.evr.rel = r2 at *
    have q0 : k1 = k2 ∨ (k1 ≠ k2 ∧ (k1 != k2) = true) := by by_cases h : k1 = k2; exact .inl h; exact .inr ⟨h, by simpa using h⟩
    have tl : ∀ {x y : ByteArray}, x = y ∨ ¬ x.toList = y.toList := fun {x y} => by by_cases h : x.toList = y.toList; exact .inl (toList_inj h); exact .inr h
    rcases q0 with rfl | ⟨q, q'⟩
    rcases (tl : n1 = n2 ∨ _) with rfl | q
    by_cases q : o1 = o2
    subst q
    by_cases q : e1 = e2
    subst q
    rcases (tl : v1 = v2 ∨ _) with rfl | q
    rcases (tl : r1 = r2 ∨ _) with rfl | q
    by_cases q : a.args.length = b.args.length
    · clear tl
      obtain ⟨m, hm⟩ : ∃ m, m = a.args.length := ⟨_, rfl⟩
      have L1 := Lib.hid (show a.args.length = m from hm.symm)
      have L2 := Lib.hid (show b.args.length = m by rw [← q, hm])
      rw [← q, ← hm]
      rw [← hm] at hm1
      clear q hm hm2
      generalize a.args = l1 at *
      generalize b.args = l2 at *
      generalize a.addr = aA at *
      generalize b.addr = bA at *
      generalize a.cap = ac at *
      generalize b.cap = bc at *
      obtain ⟨W2, hW2⟩ : ∃ W2, W2 = (w.alloc (.cells #[.int .u8 k1, .string n1, .int .u8 o1, .int .i64 e1, .string v1, .string r1, .slice aA m ac] 39)).alloc (.cells #[.int .u8 k1, .string n1, .int .u8 o1, .int .i64 e1, .string v1, .string r1, .slice bA m bc] 39) := ⟨_, rfl⟩
      have z1 : (w.alloc (.cells #[.int .u8 k1, .string n1, .int .u8 o1, .int .i64 e1, .string v1, .string r1, .slice aA m ac] 39)).heap.size = w.heap.size + 1 := by simp
      have c6a : W2.cell? ⟨w.heap.size, 6, none⟩ = some (.slice aA m ac) := by rw [hW2]; exact (World.cell?_alloc_lt _ _ ⟨w.heap.size, 6, none⟩ (by simp)).trans ((World.cell?_alloc_at _ _ _ _ rfl).trans rfl)
      have c6b : W2.cell? ⟨w.heap.size + 1, 6, none⟩ = some (.slice bA m bc) := by rw [hW2]; exact (World.cell?_alloc_at _ _ _ _ z1.symm).trans rfl
      have hB2 : Below w.heap.size w W2 := by rw [hW2]; exact ((Below.refl _ _).alloc (Nat.le_refl _) _).alloc (by simp) _
      have hz2 : W2.heap.size = w.heap.size + 2 := by rw [hW2]; simp
      have HW2 := Lib.hid hW2
      have C6A := Lib.hid c6a
      have C6B := Lib.hid c6b
      have HB2 := Lib.hid hB2
      have HZ2 := Lib.hid hz2
      clear hW2 c6a c6b hB2 hz2 z1
      go_enter Tryz.func73, Tryz.ntmps73
      go_wp2_with fail
      go_loopw [5] (fun i wr => ∃ k : Nat, k ≤ m ∧ i = .int .i64 (k : Int) ∧ sameL ((treeL l1).take k) ((treeL l2).take k) = true ∧ Below (w.heap.size + 2) W2 wr) (fun i _ => m - (intOf i).toNat)
      case atStart => exact ⟨0, by omega, rfl, rfl, by rw [HW2.out]; exact Below.refl _ _⟩
      case round =>
        obtain ⟨k, hk, rfl, hS, hB⟩ := hrel
        rename World => wr
        have HWR := Lib.hid (HB2.out.trans (hB.mono (by omega)))
        have q6a : wr.cell? ⟨w.heap.size, 6, none⟩ = some (.slice aA m ac) := (hB.cell (p := ⟨w.heap.size, 6, none⟩) (by show w.heap.size < w.heap.size + 2; omega)).trans C6A.out
        have q6b : wr.cell? ⟨w.heap.size + 1, 6, none⟩ = some (.slice bA m bc) := (hB.cell (p := ⟨w.heap.size + 1, 6, none⟩) (by show w.heap.size + 1 < w.heap.size + 2; omega)).trans C6B.out
        have HS := Lib.hid hS
        have HBB := Lib.hid hB
        clear hS hB
        by_cases hlt : k < m
        · have hka : k < l1.length := by have := L1.out; omega
          have hkb : k < l2.length := by have := L2.out; omega
          have RA := HA.out.below HWR.out
          have RB := HB.out.below HWR.out
          obtain ⟨b1, p1, rfl, hb1, c0, c1, c2, c3, c4, c5, c6⟩ := RA.at_ hka
          obtain ⟨b2, p2, rfl, hb2, d0, d1, d2, d3, d4, d5, d6⟩ := RB.at_ hkb
          have TA := (RA.2 _ (List.getElem_mem hka)).more HWR.out.size
          have TB := (RB.2 _ (List.getElem_mem hkb)).more HWR.out.size
          have hht := Nat.le_trans (ht_mem (List.getElem_mem hka)) HF.out
          have hc := IH.out l1[k] l2[k] wr.drew hht (TA.keeps (Below.refl _ _).drew) (TB.keeps (Below.refl _ _).drew)
          have hst := Lib.hid (sameL_take (l := treeL l1) (r := treeL l2) (k := k) (by rw [treeL_len, treeL_len, L1.out, L2.out]) (by rw [treeL_len]; exact hka))
          rw [treeL_get l1 k hka, treeL_get l2 k hkb] at hst
          unfold RV.val at hc
          have HC := Lib.hid hc
          clear hc TA TB RA RB hht
          generalize l1[k] = t1 at *
          generalize l2[k] = t2 at *
          clear hka hkb
          obtain ⟨r, hr⟩ : ∃ r, r = sameT t1.tree t2.tree := ⟨_, rfl⟩
          rw [← hr] at HC hst
          clear hr
          have i0 : (0 : Int) ≤ (k : Int) := by omega
          have i1 : (k : Int) < (m : Int) := by omega
          go_wp2_with fail
          have q6a' : World.cell? { wr with drawn := wr.drawn + 1 } ⟨w.heap.size, 6, none⟩ = some (.slice (some ⟨b1, p1, none⟩) m ac) := q6a
          have q6b' : World.cell? { wr with drawn := wr.drawn + 1 } ⟨w.heap.size + 1, 6, none⟩ = some (.slice (some ⟨b2, p2, none⟩) m bc) := q6b
          have c0' : World.cell? { wr with drawn := wr.drawn + 1 } ⟨b1, p1 + k * 7, none⟩ = some (.int .u8 t1.kind) := c0
          have c1' : World.cell? { wr with drawn := wr.drawn + 1 } ⟨b1, p1 + k * 7 + 1, none⟩ = some (.string (bs t1.dep.name)) := c1
          have c2' : World.cell? { wr with drawn := wr.drawn + 1 } ⟨b1, p1 + k * 7 + 2, none⟩ = some (.int .u8 t1.dep.op) := c2
          have c3' : World.cell? { wr with drawn := wr.drawn + 1 } ⟨b1, p1 + k * 7 + 3, none⟩ = some (.int .i64 t1.dep.evr.epoch) := c3
          have c4' : World.cell? { wr with drawn := wr.drawn + 1 } ⟨b1, p1 + k * 7 + 4, none⟩ = some (.string (bs t1.dep.evr.ver)) := c4
          have c5' : World.cell? { wr with drawn := wr.drawn + 1 } ⟨b1, p1 + k * 7 + 5, none⟩ = some (.string (bs t1.dep.evr.rel)) := c5
          have c6' : World.cell? { wr with drawn := wr.drawn + 1 } ⟨b1, p1 + k * 7 + 6, none⟩ = some (.slice t1.addr t1.args.length t1.cap) := c6
          have d0' : World.cell? { wr with drawn := wr.drawn + 1 } ⟨b2, p2 + k * 7, none⟩ = some (.int .u8 t2.kind) := d0
          have d1' : World.cell? { wr with drawn := wr.drawn + 1 } ⟨b2, p2 + k * 7 + 1, none⟩ = some (.string (bs t2.dep.name)) := d1
          have d2' : World.cell? { wr with drawn := wr.drawn + 1 } ⟨b2, p2 + k * 7 + 2, none⟩ = some (.int .u8 t2.dep.op) := d2
          have d3' : World.cell? { wr with drawn := wr.drawn + 1 } ⟨b2, p2 + k * 7 + 3, none⟩ = some (.int .i64 t2.dep.evr.epoch) := d3
          have d4' : World.cell? { wr with drawn := wr.drawn + 1 } ⟨b2, p2 + k * 7 + 4, none⟩ = some (.string (bs t2.dep.evr.ver)) := d4
          have d5' : World.cell? { wr with drawn := wr.drawn + 1 } ⟨b2, p2 + k * 7 + 5, none⟩ = some (.string (bs t2.dep.evr.rel)) := d5
          have d6' : World.cell? { wr with drawn := wr.drawn + 1 } ⟨b2, p2 + k * 7 + 6, none⟩ = some (.slice t2.addr t2.args.length t2.cap) := d6
          go_still_tail 10, (by kernel_rfl)
          change wpList _ _ _ _ _ wr.drew
          go_wp2_with fail
          go_at_call 73
          refine HC.out.mono ?_
          rintro en w5 ⟨rfl, hb5⟩
          have HB5 := Lib.hid (HBB.out.drew.trans ((hb5.mono (by have := HBB.out.size; have := HZ2.out; show w.heap.size + 2 ≤ wr.heap.size; omega) : Below (w.heap.size + 2) wr.drew w5)))
          clear hb5
          cases r with
          | true =>
            go_wp2_with fail
            go_roundw
            case rel => exact ⟨k + 1, by omega, by go_num, by rw [hst.out, HS.out]; rfl, HB5.out⟩
            case measure => simp [intOf]; omega
          | false =>
            go_wp2_with fail
            go_ret
            exact ⟨ret_bool (by rw [HR.out, sameL_no (k := k + 1) (by rw [hst.out]; simp)]; simp), HB2.out.trans (HB5.out.mono (by omega))⟩
        · have i1 : ¬ (k : Int) < (m : Int) := by omega
          obtain rfl : k = m := by omega
          go_wp2_with fail
          go_ret
          have h1 : (treeL l1).take k = treeL l1 := List.take_of_length_le (by rw [treeL_len, L1.out]; omega)
          have h2 : (treeL l2).take k = treeL l2 := List.take_of_length_le (by rw [treeL_len, L2.out]; omega)
          have h3 := HS.out
          rw [h1, h2] at h3
          exact ⟨ret_bool (by rw [HR.out, h3]; simp), HWR.out⟩
    · have hl := Lib.hid (sameL_len (l := treeL a.args) (r := treeL b.args) (by rw [treeL_len, treeL_len]; exact q))
      have q' : ((a.args.length : Int) != (b.args.length : Int)) = true := by simp only [bne_iff_ne]; omega
      clear tl q
      generalize a.args.length = m1 at *
      generalize b.args.length = m2 at *
      go_enter Tryz.func73, Tryz.ntmps73
      go_wp2_with fail
      go_ret
      exact ⟨ret_bool (by rw [HR.out, hl.out, Bool.and_false]), ((Below.refl _ _).alloc (Nat.le_refl _) _).alloc (by simp) _⟩
    all_goals
      clear tl
      go_enter Tryz.func73, Tryz.ntmps73
      go_wp2_with fail
      go_ret
      exact ⟨ret_bool (by rw [HR.out]; simp [q]), ((Below.refl _ _).alloc (Nat.le_refl _) _).alloc (by simp) _⟩
end Go.Proofs.YteobmfpbgnmffaaGreatDoor
