/- RichLarge, RtPlain -/
import Derived.Test.YtoglbogfoolkaaaGreatDoorRichTellsRowG26
import Derived.Test.YtoglbogfoolkaaaGreatDoorRichTellsRowG28
namespace Go.Proofs.YtoglbogfoolkaaaGreatDoor
section
/- Walks: of how many parts a rich dependency is, up to a bound (chandlerylaw08.much, large). -/



open Go.RowKit Go.Shelf
set_option linter.unusedVariables false

theorem partsL_take2 {l : List RT} {k : Nat} (hk : k < l.length) : partsL (l.take (k + 1)) = partsL (l.take k) + l[k].parts := by rw [take_snoc l k hk, partsL_app]; simp [partsL]
def RMuch (t : RT) (w : World) (e : Ending) (w' : World) : Prop := ∃ (m : Nat) (r : Bool), e = .returned (.tuple #[.int .i64 (m : Int), .bool r]) ∧ m ≤ 2000 ∧ (r = false → m = t.parts) ∧ Below w.heap.size w w'
set_option maxRecDepth 100000 in
set_option maxHeartbeats 16000000 in
theorem rmuch_any : ∀ (f deep : Nat) (t : RV) (w : World), deep + f = 21 → RTree w.heap.size w t → Calls Tryz.prog 98 #[t.val, .int .i64 (deep : Int)] w (RMuch t.tree w)
  | 0, deep, t, w, hd, h => by
    obtain rfl : deep = 21 := by omega
    have hm := h.row.len
    unfold RV.val
    clear h
    generalize t.args.length = n at *
    go_enter Tryz.func98, Tryz.ntmps98
    go_wp2_with fail
    go_ret2
    exact ⟨0, true, rfl, by omega, (fun h => by cases h), (Below.refl _ _).alloc (Nat.le_refl _) _⟩
  | f + 1, deep, t, w, hd, h => by
    have IH := Lib.hid (fun x W h => rmuch_any f (deep + 1) x W (by omega) h)
    have hm := h.row.len
    have HA := Lib.hid h.rrow
    have d0 : ¬ (20 : Int) < (deep : Int) := by omega
    have d1 : (deep : Int) ≤ 20 := by omega
    have hpa := Lib.hid (show t.tree.parts = 1 + partsL (treeL t.args) by rw [tree_parts t, RT.parts])
    unfold RV.val
    have hd1 : (((deep + 1 : Nat)) : Int) = (deep : Int) + 1 := by omega
    rw [hd1] at IH
    clear h hd hd1
    by_cases hn : 100 < t.args.length
    · have hn2 : (100 : Int) < (t.args.length : Int) := by omega
      clear IH HA hn
      generalize t.args.length = n at *
      go_enter Tryz.func98, Tryz.ntmps98
      go_wp2_with fail
      go_ret2
      exact ⟨0, true, rfl, by omega, (fun h => by cases h), (Below.refl _ _).alloc (Nat.le_refl _) _⟩
    · have hn2 : ¬ (100 : Int) < (t.args.length : Int) := by omega
      obtain ⟨n, hnn⟩ : ∃ n, n = t.args.length := ⟨_, rfl⟩
      rw [← hnn] at hn hn2 hm ⊢
      have HN := Lib.hid hnn
      clear hnn
      generalize t.addr = aA at *
      generalize t.cap = ac at *
      generalize t.args = l at *
      generalize bs t.dep.name = s0 at *
      generalize bs t.dep.evr.ver = s1 at *
      generalize bs t.dep.evr.rel = s2 at *
      obtain ⟨z, hz⟩ : ∃ z, IntKind.i64.wrap ((s0.size : Int) + (s1.size : Int)) = z := ⟨_, rfl⟩
      by_cases q1 : (500 : Int) < z
      · go_enter Tryz.func98, Tryz.ntmps98
        go_wp2_with fail
        go_ret2
        exact ⟨0, true, rfl, by omega, (fun h => by cases h), (Below.refl _ _).alloc (Nat.le_refl _) _⟩
      · by_cases q2 : (500 : Int) < (s2.size : Int)
        · go_enter Tryz.func98, Tryz.ntmps98
          go_wp2_with fail
          go_ret2
          exact ⟨0, true, rfl, by omega, (fun h => by cases h), (Below.refl _ _).alloc (Nat.le_refl _) _⟩
        · obtain ⟨W1, hW1⟩ : ∃ W1, W1 = w.alloc (.cells #[.int .u8 t.kind, .string s0, .int .u8 t.dep.op, .int .i64 t.dep.evr.epoch, .string s1, .string s2, .slice aA n ac] 39) := ⟨_, rfl⟩
          have HC6 := Lib.hid (show W1.cell? ⟨w.heap.size, 6, none⟩ = some (.slice aA n ac) by rw [hW1]; exact (World.cell?_alloc_at _ _ _ _ rfl).trans rfl)
          have HB1 := Lib.hid (show Below w.heap.size w W1 by rw [hW1]; exact (Below.refl _ _).alloc (Nat.le_refl _) _)
          have Z1 := Lib.hid (show W1.heap.size = w.heap.size + 1 by rw [hW1]; simp)
          have HW1 := Lib.hid hW1
          clear hW1
          go_enter Tryz.func98, Tryz.ntmps98
          go_wp2_with fail
          go_loopw [6, 7] (fun m i wr => ∃ k c : Nat, k ≤ n ∧ c = 1 + partsL ((treeL l).take k) ∧ c ≤ 2000 ∧ i = .int .i64 (k : Int) ∧ m = .int .i64 (c : Int) ∧ Below (w.heap.size + 1) W1 wr) (fun _ i _ => n - (intOf i).toNat)
          case atStart => exact ⟨0, 1, by omega, by simp [partsL], by omega, rfl, rfl, by rw [HW1.out]; exact Below.refl _ _⟩
          case round =>
            obtain ⟨k, c, hk, hcp, hc, rfl, rfl, hB⟩ := hrel
            rename World => wr
            have q6 : wr.cell? ⟨w.heap.size, 6, none⟩ = some (.slice aA n ac) := (hB.cell (p := ⟨w.heap.size, 6, none⟩) (by show w.heap.size < w.heap.size + 1; omega)).trans HC6.out
            have HBW := Lib.hid (HB1.out.trans (hB.mono (by omega)))
            have HBR := Lib.hid hB
            have HCP := Lib.hid hcp
            have hz1 : w.heap.size + 1 ≤ wr.heap.size := by have := hB.size; have := Z1.out; omega
            clear hB hcp
            by_cases hlt : k < n
            · have hkl : k < l.length := by have := HN.out; omega
              have RR := HA.out.below HBW.out
              obtain ⟨b, o, rfl, hb, c0, c1, c2, c3, c4, c5, c6⟩ := RR.at_ hkl
              have TA := (RR.2 _ (List.getElem_mem hkl)).more HBW.out.size
              have hkt : k < (treeL l).length := by rw [treeL_len]; exact hkl
              have g1 := partsL_take2 hkt
              rw [treeL_get l k hkl] at g1
              have hc2 := IH.out l[k] wr TA
              unfold RV.val RMuch at hc2
              have HC := Lib.hid hc2
              have G1 := Lib.hid g1
              have i0 : (0 : Int) ≤ (k : Int) := by omega
              have i1 : (k : Int) < (n : Int) := by omega
              clear hc2 TA RR g1
              generalize l[k] = a at *
              clear hkt hkl
              go_wp2_with fail
              go_at_call 98
              refine HC.out.mono ?_
              rintro e w2 ⟨m, r, rfl, hm2, hmr, hb2⟩
              have HMR := Lib.hid hmr
              have HB2 := Lib.hid (HBR.out.trans (hb2.mono hz1))
              have HB2w := Lib.hid (HBW.out.trans (hb2.mono HBW.out.size))
              clear hb2 hmr HC
              cases r
              · by_cases q3 : (2000 : Int) < (c : Int) + (m : Int)
                · go_wp2_with fail
                  go_ret2
                  exact ⟨0, true, rfl, by omega, (fun h => by cases h), HB2w.out⟩
                · go_wp2_with fail
                  go_roundw
                  case rel => exact ⟨k + 1, c + m, by omega, by rw [G1.out, HCP.out, HMR.out (by first | rfl | trivial)]; omega, by omega, by go_num, by go_num, HB2.out⟩
                  case measure => simp [intOf]; omega
              · go_wp2_with fail
                go_ret2
                exact ⟨0, true, rfl, by omega, (fun h => by cases h), HB2w.out⟩
            · have i1 : ¬ (k : Int) < (n : Int) := by omega
              obtain rfl : k = n := by omega
              have hfull : (treeL l).take k = treeL l := List.take_of_length_le (by rw [treeL_len]; have := HN.out; omega)
              have HX := Lib.hid (show c = t.tree.parts by rw [HCP.out, hfull, hpa.out])
              clear hfull
              go_wp2_with fail
              go_ret2
              exact ⟨c, false, rfl, hc, fun _ => HX.out, HBW.out⟩
set_option maxRecDepth 100000 in
set_option maxHeartbeats 4000000 in
theorem rlarge_any (t : RV) (w : World) (h : RTree w.heap.size w t) : Calls Tryz.prog 26 #[t.val] w fun e w' => ∃ r : Bool, e = .returned (.bool r) ∧ (r = false → t.tree.parts ≤ 2000) ∧ Below w.heap.size w w' := by
  have hc := rmuch_any 21 0 t (w.alloc (.cells #[.int .u8 t.kind, .string (bs t.dep.name), .int .u8 t.dep.op, .int .i64 t.dep.evr.epoch, .string (bs t.dep.evr.ver), .string (bs t.dep.evr.rel), .slice t.addr t.args.length t.cap] 39)) rfl ((h.keeps ((Below.refl _ _).alloc (Nat.le_refl _) _)).more (by simp))
  unfold RMuch at hc
  unfold RV.val at hc ⊢
  have HC := Lib.hid hc
  clear h hc
  generalize t.args.length = n at *
  go_enter Tryz.func26, Tryz.ntmps26
  go_wp2_with fail
  go_at_call 98
  refine HC.out.mono ?_
  rintro en w1 ⟨m, r, rfl, hm, hmr, hb⟩
  have HM := Lib.hid hmr
  have HB := Lib.hid (((Below.refl w.heap.size w).alloc (Nat.le_refl _) _).trans (hb.mono (by simp)))
  clear hb hmr
  go_wp2_with fail
  go_ret
  exact ⟨r, rfl, fun h => by rw [← HM.out h]; exact hm, HB.out⟩
end
section
/- Plain law: how the reference tells whether a rich dependency is whole, and which word stands between its parts. -/


open Go.RowKit

/-- how many parts a kind may have, as the reference asks it -/
def argsB (k : Int) (n : Nat) : Bool := if k = 4 ∨ k = 5 then decide (n = 2 ∨ n = 3) else if k = 7 then decide (n = 2) else decide (2 ≤ n)
mutual
def RT.okW : RT → Bool | .mk k d l => if k = 1 then l.isEmpty && dmayB d else decide (2 ≤ k ∧ k ≤ 7) && (argsB k l.length && (okWL l && isZeroT d))
def okWL : List RT → Bool | [] => true | t :: l => t.okW && okWL l
end
theorem argsB_most {k : Int} {n : Nat} (hn : n ≤ 24) : argsB k n = decide (2 ≤ n ∧ n ≤ mostK k) := by
  unfold argsB mostK
  split
  · apply decide_eq_decide.2; omega
  · split
    · apply decide_eq_decide.2; omega
    · apply decide_eq_decide.2; omega
mutual
theorem okW_eq : ∀ t : RT, t.parts ≤ 24 → t.okW = t.okB
  | .mk k d l, h => by
    have hp : 1 + partsL l ≤ 24 := h
    have hl := partsL_len l
    unfold RT.okW RT.okB
    rw [okWL_eq l (by omega), argsB_most (by omega)]
    cases isZeroT d <;> cases okL l <;> simp
theorem okWL_eq : ∀ l : List RT, partsL l ≤ 24 → okWL l = okL l
  | [], _ => rfl
  | t :: l, h => by
    have hp : t.parts + partsL l ≤ 24 := h
    unfold okWL okL
    rw [okW_eq t (by omega), okWL_eq l (by omega)]
end
theorem whole_w (t : RT) : t.whole = (t.okW && decide (t.parts ≤ 24 ∧ t.deep ≤ 8)) := by
  unfold RT.whole
  by_cases h : t.parts ≤ 24
  · rw [okW_eq t h]
  · rw [decide_eq_false (by omega), Bool.and_false, Bool.and_false]
theorem okWL_take {l : List RT} {k : Nat} (hk : k < l.length) : okWL (l.take (k + 1)) = (okWL (l.take k) && l[k].okW) := by
  induction l generalizing k with
  | nil => simp at hk
  | cons a l ih => cases k with
    | zero => simp [okWL]
    | succ k => simp only [List.take_succ_cons, okWL, List.getElem_cons_succ]; rw [ih (by simpa using hk), Bool.and_assoc]
theorem okWL_no : ∀ {l : List RT} {k : Nat}, okWL (l.take k) = false → okWL l = false
  | [], k, h => by simp [okWL] at h
  | a :: l, 0, h => by simp [okWL] at h
  | a :: l, k + 1, h => by
    simp only [List.take_succ_cons, okWL, Bool.and_eq_false_iff] at h ⊢
    rcases h with h | h
    · exact .inl h
    · exact .inr (okWL_no h)
end
end Go.Proofs.YtoglbogfoolkaaaGreatDoor
