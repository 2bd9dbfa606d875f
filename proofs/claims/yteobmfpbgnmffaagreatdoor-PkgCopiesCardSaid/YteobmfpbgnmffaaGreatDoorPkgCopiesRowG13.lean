/- DepMay, DepOfL, RichAtom, AppendRd -/
import Derived.Test.YteobmfpbgnmffaaGreatDoorPkgCopiesRowG11
import Derived.Test.YteobmfpbgnmffaaGreatDoorPkgCopiesRowG09
import Derived.Test.YteobmfpbgnmffaaGreatDoorPkgCopiesRowG08
import Derived.Test.YteobmfpbgnmffaaGreatDoorPkgCopiesRowG12
import Derived.Test.YteobmfpbgnmffaaGreatDoorPkgCopiesRowG01
import Derived.Laws.IdiomStrings
import Derived.RegionTactic
import Derived.Deep.QuietTactic
import Derived.BigQuiet
import Derived.ChangeAlike
import Derived.Deep.RegionHeld3
import Derived.RangeFuncNested
import Derived.RangeFuncBound
import Derived.RangeFuncCalls
import Derived.RangeFuncLeaves
import Derived.RangeFuncBox
import Derived.Shelf.Abstract
import Derived.Shelf.RegionOpen
import Derived.OwnWalkIn
import Derived.TacticsInMore
import Derived.LoopNIn
import Derived.LoopIn
import Derived.Test.YteobmfpbgnmffaaGreatDoorShelf
import Derived.Shelf.Strings.BuilderX
import Derived.Lib.Builder
import Derived.Lib.AppendStr
import Derived.Lib.UnsafeStr
import Derived.Laws.Externs
import Derived.Maps.AppendAt
set_option linter.unusedSimpArgs false
set_option linter.unusedVariables false
namespace Go.Proofs.YteobmfpbgnmffaaGreatDoor
section
/- Walks: which dependencies may be. -/





open Go.RowKit Go.Shelf

theorem keep_d1 {d : Dp} {n : Nat} {w W W' : World} (h : W.cell? ⟨n, 0, none⟩ = some (.string (bs d.name)) ∧ W.cell? ⟨n, 1, none⟩ = some (.int .u8 d.op) ∧ W.cell? ⟨n, 2, none⟩ = some (.int .i64 d.evr.epoch) ∧ W.cell? ⟨n, 3, none⟩ = some (.string (bs d.evr.ver)) ∧ W.cell? ⟨n, 4, none⟩ = some (.string (bs d.evr.rel)) ∧ n < W.heap.size ∧ Below n w W) (hb : Below W.heap.size W W') :
    W'.cell? ⟨n, 0, none⟩ = some (.string (bs d.name)) ∧ W'.cell? ⟨n, 1, none⟩ = some (.int .u8 d.op) ∧ W'.cell? ⟨n, 2, none⟩ = some (.int .i64 d.evr.epoch) ∧ W'.cell? ⟨n, 3, none⟩ = some (.string (bs d.evr.ver)) ∧ W'.cell? ⟨n, 4, none⟩ = some (.string (bs d.evr.rel)) ∧ n < W'.heap.size ∧ Below n w W' := by
  obtain ⟨c0_0, c0_1, c0_2, c0_3, c0_4, l0, hB⟩ := h
  have hB_le : n ≤ W.heap.size := by omega
  exact ⟨(hb.cell (p := ⟨n, 0, none⟩) l0).trans c0_0, (hb.cell (p := ⟨n, 1, none⟩) l0).trans c0_1, (hb.cell (p := ⟨n, 2, none⟩) l0).trans c0_2, (hb.cell (p := ⟨n, 3, none⟩) l0).trans c0_3, (hb.cell (p := ⟨n, 4, none⟩) l0).trans c0_4, Nat.lt_of_lt_of_le l0 hb.size, hB.trans (hb.mono hB_le)⟩
theorem new_d1 (d : Dp) (w : World) : let W := (w.alloc (.cells #[.string (bs d.name), .int .u8 d.op, .int .i64 d.evr.epoch, .string (bs d.evr.ver), .string (bs d.evr.rel)] 37)); let n := w.heap.size; W.cell? ⟨n, 0, none⟩ = some (.string (bs d.name)) ∧ W.cell? ⟨n, 1, none⟩ = some (.int .u8 d.op) ∧ W.cell? ⟨n, 2, none⟩ = some (.int .i64 d.evr.epoch) ∧ W.cell? ⟨n, 3, none⟩ = some (.string (bs d.evr.ver)) ∧ W.cell? ⟨n, 4, none⟩ = some (.string (bs d.evr.rel)) ∧ n < W.heap.size ∧ Below n w W := by
  refine ⟨?_, ?_, ?_, ?_, ?_, ?_, ?_⟩
  all_goals first | exact (World.cell?_alloc_at _ _ _ _ (by simp)).trans rfl | exact ((Below.refl _ _).alloc (by simp; try omega) _) | (simp; try omega)
set_option maxRecDepth 100000 in
set_option maxHeartbeats 16000000 in
theorem dmay_pk (d : Dp) (w : World) (hw : d.wf) (hI : PkIn w) : Calls Tryz.prog 101 #[d.val] w fun e w' => e = .returned (.bool (dmayB d)) ∧ Below w.heap.size w w' := by
  have hn64 : (bs d.name).size ≤ maxLen := by rw [bs_size]; exact hw.1
  have NA := Lib.hid (fun W (h : Below w.heap.size w W) => dname_pk (bs d.name) W hn64 (hI.below h))
  have FA := Lib.hid (fun W (h : Below w.heap.size w W) => dfile_pk (bs d.name) W hn64 (hI.below h))
  have OA := Lib.hid (fun W (h : Below w.heap.size w W) => may_any d.op W (hI.1.below h))
  have EA := Lib.hid (fun W (h : Below w.heap.size w W) => evMay_any d.evr true W hw.2.2)
  rw [bs_toList] at NA FA
  have S0 := new_d1 d w
  dsimp only at S0
  obtain ⟨r, hr⟩ : ∃ r, r = dmayB d := ⟨_, rfl⟩
  rw [← hr]
  unfold dmayB at hr
  clear hI hw hn64
  cases h1 : nameB d.name with
  | false =>
    rw [h1] at NA hr
    obtain rfl : r = false := hr
    clear FA OA EA h1
    unfold Dp.val
    go_enter Tryz.func101, Tryz.ntmps101
    go_wp2_with fail
    go_at_call 113
    generalize (w.alloc (.cells #[.string (bs d.name), .int .u8 d.op, .int .i64 d.evr.epoch, .string (bs d.evr.ver), .string (bs d.evr.rel)] 37)) = W at *
    generalize hn : w.heap.size = n at *
    obtain ⟨c0_0, c0_1, c0_2, c0_3, c0_4, l0, hB⟩ := id S0
    refine (NA.out _ hB).mono ?_
    rintro e1 w1 ⟨rfl, h⟩
    have S1 := keep_d1 S0 h
    clear S0 h c0_0 c0_1 c0_2 c0_3 c0_4 l0 hB
    obtain ⟨c0_0, c0_1, c0_2, c0_3, c0_4, l0, hB⟩ := id S1
    go_wp2_with fail
    go_ret
    exact ⟨rfl, by rw [hn]; exact hB⟩
  | true =>
    rw [h1] at NA hr
    cases h2 : opMay d.op with
    | false =>
      rw [h2] at OA hr
      obtain rfl : r = false := hr
      clear FA EA h1 h2
      unfold Dp.val
      go_enter Tryz.func101, Tryz.ntmps101
      go_wp2_with fail
      go_at_call 113
      generalize (w.alloc (.cells #[.string (bs d.name), .int .u8 d.op, .int .i64 d.evr.epoch, .string (bs d.evr.ver), .string (bs d.evr.rel)] 37)) = W at *
      generalize hn : w.heap.size = n at *
      obtain ⟨c0_0, c0_1, c0_2, c0_3, c0_4, l0, hB⟩ := id S0
      refine (NA.out _ hB).mono ?_
      rintro e1 w1 ⟨rfl, h⟩
      have S1 := keep_d1 S0 h
      clear S0 h c0_0 c0_1 c0_2 c0_3 c0_4 l0 hB
      obtain ⟨c0_0, c0_1, c0_2, c0_3, c0_4, l0, hB⟩ := id S1
      go_wp2_with fail
      go_at_call 145
      refine (OA.out _ hB).mono ?_
      rintro e2 w2 ⟨rfl, h⟩
      have S2 := keep_d1 S1 h
      clear c0_0 c0_1 c0_2 c0_3 c0_4 l0 hB
      clear S1 h
      obtain ⟨c0_0, c0_1, c0_2, c0_3, c0_4, l0, hB⟩ := id S2
      go_wp2_with fail
      go_ret
      exact ⟨rfl, by rw [hn]; exact hB⟩
    | true =>
      rw [h2] at OA hr
      by_cases h3 : d.op = 0
      · rw [if_pos h3] at hr
        clear FA EA h1 h2
        have h4 : (d.op == 0) = true := by simpa using h3
        have HR := Lib.hid hr
        unfold isZero at HR
        clear hr h3
        have q1 : (bs d.evr.ver).toList = d.evr.ver := bs_toList _
        have q2 : (bs d.evr.rel).toList = d.evr.rel := bs_toList _
        unfold Dp.val
        go_enter Tryz.func101, Tryz.ntmps101
        go_wp2_with fail
        go_at_call 113
        generalize (w.alloc (.cells #[.string (bs d.name), .int .u8 d.op, .int .i64 d.evr.epoch, .string (bs d.evr.ver), .string (bs d.evr.rel)] 37)) = W at *
        generalize hn : w.heap.size = n at *
        obtain ⟨c0_0, c0_1, c0_2, c0_3, c0_4, l0, hB⟩ := id S0
        refine (NA.out _ hB).mono ?_
        rintro e1 w1 ⟨rfl, h⟩
        have S1 := keep_d1 S0 h
        clear S0 h c0_0 c0_1 c0_2 c0_3 c0_4 l0 hB
        obtain ⟨c0_0, c0_1, c0_2, c0_3, c0_4, l0, hB⟩ := id S1
        go_wp2_with fail
        go_at_call 145
        refine (OA.out _ hB).mono ?_
        rintro e2 w2 ⟨rfl, h⟩
        have S2 := keep_d1 S1 h
        clear c0_0 c0_1 c0_2 c0_3 c0_4 l0 hB
        clear S1 h
        obtain ⟨c0_0, c0_1, c0_2, c0_3, c0_4, l0, hB⟩ := id S2
        go_wp2_with fail
        all_goals
          go_ret
          exact ⟨ret_bool (by rw [HR.out]; simp [*]), by rw [hn]; exact hB⟩
      · rw [if_neg h3] at hr
        have h4 : (d.op == 0) = false := by simpa using h3
        cases h5 : fileB d.name with
        | true =>
          rw [h5] at FA hr
          obtain rfl : r = false := hr
          clear EA h1 h2 h5
          unfold Dp.val
          go_enter Tryz.func101, Tryz.ntmps101
          go_wp2_with fail
          go_at_call 113
          generalize (w.alloc (.cells #[.string (bs d.name), .int .u8 d.op, .int .i64 d.evr.epoch, .string (bs d.evr.ver), .string (bs d.evr.rel)] 37)) = W at *
          generalize hn : w.heap.size = n at *
          obtain ⟨c0_0, c0_1, c0_2, c0_3, c0_4, l0, hB⟩ := id S0
          refine (NA.out _ hB).mono ?_
          rintro e1 w1 ⟨rfl, h⟩
          have S1 := keep_d1 S0 h
          clear S0 h c0_0 c0_1 c0_2 c0_3 c0_4 l0 hB
          obtain ⟨c0_0, c0_1, c0_2, c0_3, c0_4, l0, hB⟩ := id S1
          go_wp2_with fail
          go_at_call 145
          refine (OA.out _ hB).mono ?_
          rintro e2 w2 ⟨rfl, h⟩
          have S2 := keep_d1 S1 h
          clear c0_0 c0_1 c0_2 c0_3 c0_4 l0 hB
          clear S1 h
          obtain ⟨c0_0, c0_1, c0_2, c0_3, c0_4, l0, hB⟩ := id S2
          go_wp2_with fail
          go_at_call 114
          refine (FA.out _ hB).mono ?_
          rintro e3 w3 ⟨rfl, h⟩
          have S3 := keep_d1 S2 h
          clear c0_0 c0_1 c0_2 c0_3 c0_4 l0 hB
          clear S2 h
          obtain ⟨c0_0, c0_1, c0_2, c0_3, c0_4, l0, hB⟩ := id S3
          go_wp2_with fail
          go_ret
          exact ⟨rfl, by rw [hn]; exact hB⟩
        | false =>
          rw [h5] at FA hr
          have hr2 : r = mayB d.evr true := hr
          rw [← hr2] at EA
          clear hr hr2 h1 h2 h5
          unfold Evr.val at EA
          unfold Dp.val
          go_enter Tryz.func101, Tryz.ntmps101
          go_wp2_with fail
          go_at_call 113
          generalize (w.alloc (.cells #[.string (bs d.name), .int .u8 d.op, .int .i64 d.evr.epoch, .string (bs d.evr.ver), .string (bs d.evr.rel)] 37)) = W at *
          generalize hn : w.heap.size = n at *
          obtain ⟨c0_0, c0_1, c0_2, c0_3, c0_4, l0, hB⟩ := id S0
          refine (NA.out _ hB).mono ?_
          rintro e1 w1 ⟨rfl, h⟩
          have S1 := keep_d1 S0 h
          clear S0 h c0_0 c0_1 c0_2 c0_3 c0_4 l0 hB
          obtain ⟨c0_0, c0_1, c0_2, c0_3, c0_4, l0, hB⟩ := id S1
          go_wp2_with fail
          go_at_call 145
          refine (OA.out _ hB).mono ?_
          rintro e2 w2 ⟨rfl, h⟩
          have S2 := keep_d1 S1 h
          clear c0_0 c0_1 c0_2 c0_3 c0_4 l0 hB
          clear S1 h
          obtain ⟨c0_0, c0_1, c0_2, c0_3, c0_4, l0, hB⟩ := id S2
          go_wp2_with fail
          go_at_call 114
          refine (FA.out _ hB).mono ?_
          rintro e3 w3 ⟨rfl, h⟩
          have S3 := keep_d1 S2 h
          clear c0_0 c0_1 c0_2 c0_3 c0_4 l0 hB
          clear S2 h
          obtain ⟨c0_0, c0_1, c0_2, c0_3, c0_4, l0, hB⟩ := id S3
          go_wp2_with fail
          go_at_call 115
          refine (EA.out _ hB).mono ?_
          rintro e4 w4 ⟨rfl, h⟩
          have S4 := keep_d1 S3 h
          clear c0_0 c0_1 c0_2 c0_3 c0_4 l0 hB
          clear S3 h
          obtain ⟨c0_0, c0_1, c0_2, c0_3, c0_4, l0, hB⟩ := id S4
          go_wp2_with fail
          go_ret
          exact ⟨rfl, by rw [hn]; exact hB⟩
end
section
/- Walks: the dependency of words. -/



open Go.RowKit Go.Shelf
set_option linter.unusedVariables false

def ZV : Value := .tuple #[.agg #[.string ⟨#[]⟩, .int .u8 0, .int .i64 0, .string ⟨#[]⟩, .string ⟨#[]⟩], .int .i64 4]
end
section
/- Walks: a plain dependency is read out of words (rich.reader's plain). -/





open Go.RowKit Go.Shelf
set_option linter.unusedVariables false

theorem Box7.past {m : Nat} {a0 a1 a2 a3 a4 a5 a6 : Value} {W W' : World} (h : Box7 m a0 a1 a2 a3 a4 a5 a6 W) (hb : Below (m + 1) W W') : Box7 m a0 a1 a2 a3 a4 a5 a6 W' := by
  obtain ⟨⟨h0, h1, h2, h3, h4, h5, h6⟩, ⟨f0, f1, f2, f3, f4, f5, f6⟩, hl⟩ := h
  have hc : ∀ i, W'.cell? ⟨m, i, none⟩ = W.cell? ⟨m, i, none⟩ := fun i => hb.cell (p := ⟨m, i, none⟩) (Nat.lt_succ_self m)
  have hf : ∀ i, W'.frozen? ⟨m, i, none⟩ = W.frozen? ⟨m, i, none⟩ := fun i => hb.frozen (p := ⟨m, i, none⟩) (Nat.lt_succ_self m)
  exact ⟨⟨(hc 0).trans h0, (hc 1).trans h1, (hc 2).trans h2, (hc 3).trans h3, (hc 4).trans h4, (hc 5).trans h5, (hc 6).trans h6⟩, ⟨(hf 0).trans f0, (hf 1).trans f1, (hf 2).trans f2, (hf 3).trans f3, (hf 4).trans f4, (hf 5).trans f5, (hf 6).trans f6⟩, Nat.lt_of_lt_of_le hl hb.size⟩
end
section
/- append of a slice that came in, of whatever elements, nil too, onto a row of the call's own. -/



open Go.RowKit

theorem len_flat {α β : Type} {enc : α → List β} {size : Nat} (he : ∀ x, (enc x).length = size) : ∀ D : List α, (D.flatMap enc).length = D.length * size
  | [] => by simp
  | x :: D => by rw [List.flatMap_cons, List.length_append, he, len_flat he D, List.length_cons, Nat.add_mul]; omega
section
variable {P : Program} {α : Type} {enc : α → List Value} (w : World)
theorem run_append_nil (base : Nat) (t ty e : TypeId) (i : TypeInfo) (size : Nat) (ht : P.underlying t = some (.slice e)) (hi : P.info? e = some i)
    (v : Value) (n : Nat) (xs : List Value) (hown : w.ownsRow base e size v n xs) (c : Nat) : (Builtin.append_ #[t, t] ty #[v, .slice none 0 c]).run P w = .ok v w := by
  rcases hown.2 with ⟨rfl, rfl⟩ | ⟨g, cap, cur, rfl, _, _, hnc, _⟩
  · simp [Builtin.append_, run_underlying ht, sizeOf, typeInfo, hi, Builtin.lenOf, Builtin.firstCells]
  · simp [Builtin.append_, run_underlying ht, sizeOf, typeInfo, hi, Builtin.lenOf, Builtin.firstCells, hnc, storeCells]
theorem run_append_rd (base : Nat) (t ty e : TypeId) (i : TypeInfo) (z : Value) (size bytes : Nat) (ht : P.underlying t = some (.slice e)) (hi : P.info? e = some i) (hz : i.zero = some z) (hsize : i.size = size) (hby : i.bytes = bytes) (hzc : z.cells.size = size) (hs0 : 0 < size)
    (he : ∀ x, (enc x).length = size) (h1 : ∀ x, ∀ u ∈ enc x, u.oneCell' = true)
    (v : Value) (n : Nat) (xs : List Value) (hown : w.ownsRow base e size v n xs) (B : Nat) (A : Option Addr) (c : Nat) (D : List α) (hT : Rd enc size B A c D w) (hn : n + D.length ≤ 1000000) (hbytes : bytes ≤ 1000) (hbase : base ≤ w.heap.size) :
    ∃ v' w', (Builtin.append_ #[t, t] ty #[v, .slice A D.length c]).run P w = .ok v' w' ∧ w'.ownsRow base e size v' (n + D.length) (xs ++ D.flatMap enc) ∧ w.grownBy w' v.ownBlock ∧ (v'.ownBlock = v.ownBlock ∨ v'.ownBlock = some w.heap.size) := by
  cases A with
  | none =>
    have hD : D = [] := by
      cases D with
      | nil => rfl
      | cons x D => obtain ⟨b, o, e, _⟩ := hT.2.2 0 (by simp); cases e
    subst hD
    exact ⟨v, w, run_append_nil w base t ty e i size ht hi v n xs hown c, by simpa using hown, World.grownBy.refl w _, .inl rfl⟩
  | some ad =>
    obtain ⟨v', w', hrun, r1, r2, _, r4⟩ := run_append_own_at (P := P) w base t ty e i z size bytes ht hi hz hsize hby hzc hs0 v n xs hown ad D.length c (D.flatMap enc) (len_flat he D) (fun j u hu => by
      have hj : j < D.length * size := by
        have := (List.getElem?_eq_some_iff.1 hu).1
        rw [len_flat he] at this
        exact this
      have hk : j / size < D.length := Nat.div_lt_of_lt_mul (by rw [Nat.mul_comm]; exact hj)
      obtain ⟨b, o, e2, _, hc⟩ := hT.2.2 (j / size) hk
      cases e2
      rw [Addr.add_lit]
      have hd := Nat.div_add_mod j size
      have h3 := flatMap_at enc size he D (j / size) hk (j % size) (Nat.mod_lt _ hs0)
      rw [show j / size * size + j % size = j by rw [Nat.mul_comm]; exact hd, hu] at h3
      have h4 := hc (j % size) u h3.symm
      rw [show o + j / size * size + j % size = o + j by rw [Nat.add_assoc, Nat.mul_comm (j / size)]; rw [hd]] at h4
      exact h4) (fun u hu => by obtain ⟨x, _, hx⟩ := List.mem_flatMap.1 hu; exact h1 x u hx) (by unfold maxLen; omega) (by have := Nat.mul_le_mul hn hbytes; omega) hbase
    exact ⟨v', w', hrun, r1, r2, r4⟩
/-- the same, as a step of a region that draws -/
theorem step_append_rd {ops : Array Oper} {o : Oper} {a : Act} {K : Act → World → Prop} {Q : Exit → Act → World → Prop} {E : Prop} (hgd : o.guard = none) (s x : Operand) (t : TypeId)
    (ho : o.op = .call { callee := .builtin .append, args := #[s, x], argTypes := #[t, t] })
    (base : Nat) (e : TypeId) (i : TypeInfo) (z : Value) (size bytes : Nat) (ht : P.underlying t = some (.slice e)) (hi : P.info? e = some i) (hz : i.zero = some z) (hsize : i.size = size) (hby : i.bytes = bytes) (hzc : z.cells.size = size) (hs0 : 0 < size)
    (he : ∀ x, (enc x).length = size) (h1 : ∀ x, ∀ u ∈ enc x, u.oneCell' = true)
    (v : Value) (n : Nat) (xs : List Value) (hs : a.eval s = v) (hown : w.ownsRow base e size v n xs) (B : Nat) (A : Option Addr) (c : Nat) (D : List α) (m : Nat) (hm : m = D.length) (hx : a.eval x = .slice A m c) (hT : Rd enc size B A c D w) (hn : n + D.length ≤ 1000000) (hbytes : bytes ≤ 1000) (hbase : base ≤ w.heap.size)
    (h : ∀ v' w', w'.ownsRow base e size v' (n + D.length) (xs ++ D.flatMap enc) → w.grownBy w' v.ownBlock → (v'.ownBlock = v.ownBlock ∨ v'.ownBlock = some w.heap.size) → K (a.put o.dst v') w') :
    if Region.wanted o (yielded ops a.tmps) = true then Oper.wp P o a w K Q else E := by
  subst hm
  have hw : Region.wanted o (yielded ops a.tmps) = true := by simp [Region.wanted, hgd]
  rw [if_pos hw]
  obtain ⟨v', w', hrun, r1, r2, r3⟩ := run_append_rd (P := P) w base t o.type e i z size bytes ht hi hz hsize hby hzc hs0 he h1 v n xs hown B A c D hT hn hbytes hbase
  unfold Oper.wp
  simp [execOp, ho, resolve, invoke, builtin, hs, hx, hrun, Result.andThen]
  exact h v' w' r1 r2 r3
end
end
end Go.Proofs.YteobmfpbgnmffaaGreatDoor
