/- RtShow, AppendRd -/
import Derived.Test.YtoglbogfoolkaaaGreatDoorRichTellsRowG31
import Derived.Test.YtoglbogfoolkaaaGreatDoorRichTellsRowG30
import Derived.Test.YtoglbogfoolkaaaGreatDoorRichTellsRowG34
import Derived.Test.YtoglbogfoolkaaaGreatDoorRichTellsRowG35
import Derived.Test.YtoglbogfoolkaaaGreatDoorRichTellsRowG28
import Derived.Test.YtoglbogfoolkaaaGreatDoorRichTellsRowG03
import Derived.Maps.AppendAt
namespace Go.Proofs.YtoglbogfoolkaaaGreatDoor
section
/- Walks: is a rich dependency whole, its words, its text, as the reference has them (chandleryref08.Whole, Words, Show). -/






open Go.RowKit Go.Shelf
set_option linter.unusedVariables false

set_option maxRecDepth 100000 in
set_option maxHeartbeats 4000000 in
theorem rtwhole_any (t : RV) (w : World) (hp : t.tree.parts ≤ 1000000) (ht : RTree w.heap.size w t) : Calls Tryz.prog 35 #[t.val] w fun e w' => e = .returned (.bool t.tree.whole) ∧ Below w.heap.size w w' := by
  have H1 := Lib.hid (fun (W : World) (hW : Below w.heap.size w W) => rtpart_any t.ht t W (Nat.le_refl _) ((ht.keeps hW).more hW.size))
  have H2 := Lib.hid (fun (W : World) (hW : Below w.heap.size w W) => rtparts_any t.ht t W (Nat.le_refl _) hp ((ht.keeps hW).more hW.size))
  have H3 := Lib.hid (fun (W : World) (hW : Below w.heap.size w W) => rtdeep_any t.ht t W (Nat.le_refl _) hp ((ht.keeps hW).more hW.size))
  have hw := Lib.hid (whole_w t.tree)
  have hdp := deep_parts t.tree
  unfold RV.val at H1 H2 H3 ⊢
  clear ht
  obtain ⟨W1, hW1⟩ : ∃ W1, W1 = w.alloc (.cells #[.int .u8 t.kind, .string (bs t.dep.name), .int .u8 t.dep.op, .int .i64 t.dep.evr.epoch, .string (bs t.dep.evr.ver), .string (bs t.dep.evr.rel), .slice t.addr t.args.length t.cap] 39) := ⟨_, rfl⟩
  have HX := Lib.hid (show Box7 w.heap.size (.int .u8 t.kind) (.string (bs t.dep.name)) (.int .u8 t.dep.op) (.int .i64 t.dep.evr.epoch) (.string (bs t.dep.evr.ver)) (.string (bs t.dep.evr.rel)) (.slice t.addr t.args.length t.cap) W1 by rw [hW1]; exact Box7.new _ _ _ _ _ _ _ _ _)
  have HB1 := Lib.hid (show Below w.heap.size w W1 by rw [hW1]; exact (Below.refl _ _).alloc (Nat.le_refl _) _)
  have HW1 := Lib.hid hW1
  clear hW1
  obtain ⟨ok, hok⟩ : ∃ ok, ok = t.tree.okW := ⟨_, rfl⟩
  obtain ⟨p, hpp⟩ : ∃ p, p = t.tree.parts := ⟨_, rfl⟩
  obtain ⟨d, hdd⟩ : ∃ d, d = t.tree.deep := ⟨_, rfl⟩
  rw [← hok] at hw H1
  rw [← hpp] at hw H2 hp hdp
  rw [← hdd] at hw H3 hdp
  clear hok hpp hdd
  generalize t.args.length = m at *
  go_enter Tryz.func35, Tryz.ntmps35
  go_wp2_with fail
  go_at_call 105
  rw [← HW1.out]
  refine (H1.out _ HB1.out).mono ?_
  rintro en w2 ⟨rfl, hb⟩
  have HB2 := Lib.hid (HB1.out.trans (hb.mono HB1.out.size))
  have HX2 := Lib.hid (HX.out.past (hb.mono HX.out.2.2))
  obtain ⟨⟨h0, h1, h2, h3, h4, h5, h6⟩, _, _⟩ := HX2.out
  clear hb
  cases ok with
  | false =>
    go_wp2_with fail
    go_ret
    exact ⟨by rw [hw.out]; rfl, HB2.out⟩
  | true =>
    go_wp2_with fail
    go_at_call 106
    refine (H2.out _ HB2.out).mono ?_
    rintro en w3 ⟨rfl, hb⟩
    have HB3 := Lib.hid (HB2.out.trans (hb.mono HB2.out.size))
    obtain ⟨⟨h0, h1, h2, h3, h4, h5, h6⟩, _, _⟩ := HX2.out.past (hb.mono HX2.out.2.2)
    clear hb
    by_cases c1 : (p : Int) ≤ 24
    · go_wp2_with fail
      go_at_call 107
      refine (H3.out _ HB3.out).mono ?_
      rintro en w4 ⟨rfl, hb⟩
      have HB4 := Lib.hid (HB3.out.trans (hb.mono HB3.out.size))
      clear hb
      by_cases c2 : (d : Int) ≤ 8
      · have hr : (true && decide (p ≤ 24 ∧ d ≤ 8)) = true := by rw [decide_eq_true (by omega)]; rfl
        rw [hr] at hw
        clear hr
        go_wp2_with fail
        go_ret
        exact ⟨by rw [hw.out]; rfl, HB4.out⟩
      · have hr : (true && decide (p ≤ 24 ∧ d ≤ 8)) = false := by rw [decide_eq_false (by omega)]; rfl
        have c2' : decide ((d : Int) ≤ 8) = false := decide_eq_false c2
        rw [hr] at hw
        clear hr
        go_wp2_with fail
        go_ret
        exact ⟨by rw [hw.out]; rfl, HB4.out⟩
    · have hr : (true && decide (p ≤ 24 ∧ d ≤ 8)) = false := by rw [decide_eq_false (by omega)]; rfl
      have c1' : decide ((p : Int) ≤ 24) = false := decide_eq_false c1
      rw [hr] at hw
      clear hr
      go_wp2_with fail
      go_ret
      exact ⟨by rw [hw.out]; rfl, HB3.out⟩
set_option maxRecDepth 100000 in
set_option maxHeartbeats 4000000 in
theorem rtwordsW_any (t : RV) (w : World) (hp : t.tree.parts ≤ 1000000) (ht : RTree w.heap.size w t) : Calls Tryz.prog 30 #[t.val] w (WPost t.tree w) := by
  have HK := Lib.hid (fun (W : World) (hW : Below w.heap.size w W) => rtwhole_any t W hp ((ht.keeps hW).more hW.size))
  have HD := Lib.hid (fun (W : World) (hW : Below w.heap.size w W) (ho : t.tree.okB = true) => rtwords_any t.ht t W (Nat.le_refl _) ho hp ((ht.keeps hW).more hW.size))
  unfold RWPost at HD
  unfold RV.val at HK HD ⊢
  clear ht hp
  obtain ⟨k0, hk0⟩ : ∃ k0, k0 = w.alloc (.cells #[.int .u8 t.kind, .string (bs t.dep.name), .int .u8 t.dep.op, .int .i64 t.dep.evr.epoch, .string (bs t.dep.evr.ver), .string (bs t.dep.evr.rel), .slice t.addr t.args.length t.cap] 39) := ⟨_, rfl⟩
  have hX : Box7 w.heap.size (.int .u8 t.kind) (.string (bs t.dep.name)) (.int .u8 t.dep.op) (.int .i64 t.dep.evr.epoch) (.string (bs t.dep.evr.ver)) (.string (bs t.dep.evr.rel)) (.slice t.addr t.args.length t.cap) k0 := by rw [hk0]; exact Box7.new _ _ _ _ _ _ _ _ _
  have HX := Lib.hid hX
  have HB0 := Lib.hid (show Below w.heap.size w k0 by rw [hk0]; exact (Below.refl _ _).alloc (Nat.le_refl _) _)
  have HK0 := Lib.hid hk0
  clear hk0 hX
  generalize t.args.length = m at *
  go_enter Tryz.func30, Tryz.ntmps30
  go_wp2_with fail
  go_at_call 35
  rw [← HK0.out]
  refine (HK.out k0 HB0.out).mono ?_
  rintro en w1 ⟨rfl, hb⟩
  have HB := Lib.hid (HB0.out.trans (hb.mono HB0.out.size))
  obtain ⟨⟨h0, h1, h2, h3, h4, h5, h6⟩, _, _⟩ := HX.out.past (hb.mono (HX.out.2.2))
  clear hb
  cases hwh : t.tree.whole with
  | false =>
    have HWH := Lib.hid hwh
    clear hwh
    go_wp2_with fail
    go_ret2
    exact WPost.no HWH.out HB.out
  | true =>
    have HO := Lib.hid (whole_ok hwh)
    have HWH := Lib.hid hwh
    clear hwh
    go_wp2_with fail
    go_at_call 101
    refine (HD.out w1 HB.out HO.out).mono ?_
    rintro en w2 ⟨A, c, rfl, hT, hb2⟩
    have HT := Lib.hid hT
    have HB2 := Lib.hid (HB.out.trans (hb2.mono HB.out.size))
    clear hT hb2
    go_wp2_with fail
    go_ret2
    exact WPost.yes HWH.out HT.out HB2.out
set_option maxRecDepth 100000 in
set_option maxHeartbeats 4000000 in
theorem rtshow_any (t : RV) (w : World) (hp : t.tree.parts ≤ 1000000) (ht : RTree w.heap.size w t) : Calls Tryz.prog 32 #[t.val] w fun e w' => e = .returned (.tuple #[.string (bs (showR t.tree).1), .int .i64 (showR t.tree).2]) ∧ Below w.heap.size w w' := by
  have HK := Lib.hid (rtwordsW_any t (w.alloc (.cells #[.int .u8 t.kind, .string (bs t.dep.name), .int .u8 t.dep.op, .int .i64 t.dep.evr.epoch, .string (bs t.dep.evr.ver), .string (bs t.dep.evr.rel), .slice t.addr t.args.length t.cap] 39)) hp ((ht.keeps ((Below.refl _ _).alloc (Nat.le_refl _) _)).more (by simp)))
  have HP := Lib.hid hp
  unfold WPost at HK
  unfold RV.val at HK ⊢
  clear ht hp
  generalize t.args.length = m at *
  cases hwh : t.tree.whole with
  | false =>
    rw [hwh] at HK
    simp only [Bool.false_eq_true, if_false] at HK
    have hs := Lib.hid (show showR t.tree = ([], 4) by unfold showR; rw [hwh]; rfl)
    clear hwh
    go_enter Tryz.func32, Tryz.ntmps32
    go_wp2_with fail
    go_at_call 30
    refine HK.out.mono ?_
    rintro en w1 ⟨rfl, hb⟩
    have HB := Lib.hid (((Below.refl w.heap.size w).alloc (Nat.le_refl _) _).trans (hb.mono (by simp)))
    clear hb
    go_wp2_with fail
    go_ret2
    exact ⟨by rw [hs.out]; rfl, HB.out⟩
  | true =>
    rw [hwh] at HK
    simp only [if_true] at HK
    have HO := Lib.hid (whole_ok hwh)
    have HWH := Lib.hid hwh
    clear hwh
    go_enter Tryz.func32, Tryz.ntmps32
    go_wp2_with fail
    go_at_call 30
    refine HK.out.mono ?_
    rintro en w1 ⟨A, c, rfl, hT, hb⟩
    have HB := Lib.hid (((Below.refl w.heap.size w).alloc (Nat.le_refl _) _).trans (hb.mono (by simp)))
    have hwe := weigh_words HO.out HP.out
    have hln := words_many t.tree
    have hpp := HP.out
    have hRd : Rd encStr 1 w1.heap.size A t.tree.words.length (t.tree.words.map bs) w1 := by
      refine ⟨by simp, by unfold maxLen; omega, fun k hk => ?_⟩
      obtain ⟨b, o, e, hl, hc⟩ := hT k hk
      refine ⟨b, o, e, hl, fun j u hu => ?_⟩
      cases j with
      | zero => simp only [encStr, List.getElem?_cons_zero, Option.some.injEq] at hu; subst hu; simpa using hc
      | succ j => simp [encStr] at hu
    have hj := refJoin_any (t.tree.words.map bs) A _ c w1 hRd (by rw [texts_bs]; omega)
    rw [texts_bs, List.length_map] at hj
    have HJ := Lib.hid hj
    obtain ⟨s, hs⟩ : ∃ s, s = bs (joinS none t.tree.words) := ⟨_, rfl⟩
    rw [← hs] at HJ
    have HS := Lib.hid hs
    have hsz : s.size = (joinS none t.tree.words).length := by rw [hs, bs_size]
    by_cases hl : 4096 < s.size
    · have hl' : (4096 : Int) < (s.size : Int) := by omega
      have hsh := Lib.hid (show showR t.tree = ([], 40) by unfold showR; rw [if_pos HWH.out, if_pos (by omega)])
      clear hT hb hwe hln hpp hRd hj hs hsz hl
      generalize t.tree.words.length = n at *
      go_wp2_with fail
      go_at_call 103
      refine HJ.out.mono ?_
      rintro en w2 ⟨rfl, rfl⟩
      go_wp2_with fail
      go_ret2
      exact ⟨by rw [hsh.out]; rfl, HB.out⟩
    · have hl' : ¬ (4096 : Int) < (s.size : Int) := by omega
      have hsh := Lib.hid (show showR t.tree = (joinS none t.tree.words, 0) by unfold showR; rw [if_pos HWH.out, if_neg (by omega)])
      clear hT hb hwe hln hpp hRd hj hs hsz hl
      generalize t.tree.words.length = n at *
      go_wp2_with fail
      go_at_call 103
      refine HJ.out.mono ?_
      rintro en w2 ⟨rfl, rfl⟩
      go_wp2_with fail
      go_ret2
      exact ⟨by rw [hsh.out, HS.out]; rfl, HB.out⟩
end
section
/- append of a slice that came in, of whatever elements, nil too, onto a row of the call's own. -/



open Go.RowKit

theorem len_flat {α β : Type} {enc : α → List β} {size : Nat} (he : ∀ x, (enc x).length = size) : ∀ D : List α, (D.flatMap enc).length = D.length * size
  | [] => by simp
  | x :: D => by rw [List.flatMap_cons, List.length_append, he, len_flat he D, List.length_cons, Nat.add_mul]; omega
section
variable {P : Program} {α : Type} {enc : α → List Value} (w : World)
theorem run_append_nil (base : Nat) (t ty e : TypeId) (i : TypeInfo) (size : Nat) (ht : P.underlying t = some (.slice e)) (hi : P.info? e = some i)
    (v : Value) (n : Nat) (xs : List Value) (hown : w.ownsRow base e size v n xs) (c : Nat) : (Builtin.append_ #[t, t] ty #[v, .slice none 0 c]).run P w = .ok v w := by
  rcases hown.2 with ⟨rfl, rfl⟩ | ⟨g, cap, cur, rfl, _, _, hnc, _⟩
  · simp [Builtin.append_, run_underlying ht, sizeOf, typeInfo, hi, Builtin.lenOf, Builtin.firstCells]
  · simp [Builtin.append_, run_underlying ht, sizeOf, typeInfo, hi, Builtin.lenOf, Builtin.firstCells, hnc, storeCells]
theorem run_append_rd (base : Nat) (t ty e : TypeId) (i : TypeInfo) (z : Value) (size bytes : Nat) (ht : P.underlying t = some (.slice e)) (hi : P.info? e = some i) (hz : i.zero = some z) (hsize : i.size = size) (hby : i.bytes = bytes) (hzc : z.cells.size = size) (hs0 : 0 < size)
    (he : ∀ x, (enc x).length = size) (h1 : ∀ x, ∀ u ∈ enc x, u.oneCell' = true)
    (v : Value) (n : Nat) (xs : List Value) (hown : w.ownsRow base e size v n xs) (B : Nat) (A : Option Addr) (c : Nat) (D : List α) (hT : Rd enc size B A c D w) (hn : n + D.length ≤ 1000000) (hbytes : bytes ≤ 1000) (hbase : base ≤ w.heap.size) :
    ∃ v' w', (Builtin.append_ #[t, t] ty #[v, .slice A D.length c]).run P w = .ok v' w' ∧ w'.ownsRow base e size v' (n + D.length) (xs ++ D.flatMap enc) ∧ w.grownBy w' v.ownBlock ∧ (v'.ownBlock = v.ownBlock ∨ v'.ownBlock = some w.heap.size) := by
  cases A with
  | none =>
    have hD : D = [] := by
      cases D with
      | nil => rfl
      | cons x D => obtain ⟨b, o, e, _⟩ := hT.2.2 0 (by simp); cases e
    subst hD
    exact ⟨v, w, run_append_nil w base t ty e i size ht hi v n xs hown c, by simpa using hown, World.grownBy.refl w _, .inl rfl⟩
  | some ad =>
    obtain ⟨v', w', hrun, r1, r2, _, r4⟩ := run_append_own_at (P := P) w base t ty e i z size bytes ht hi hz hsize hby hzc hs0 v n xs hown ad D.length c (D.flatMap enc) (len_flat he D) (fun j u hu => by
      have hj : j < D.length * size := by
        have := (List.getElem?_eq_some_iff.1 hu).1
        rw [len_flat he] at this
        exact this
      have hk : j / size < D.length := Nat.div_lt_of_lt_mul (by rw [Nat.mul_comm]; exact hj)
      obtain ⟨b, o, e2, _, hc⟩ := hT.2.2 (j / size) hk
      cases e2
      rw [Addr.add_lit]
      have hd := Nat.div_add_mod j size
      have h3 := flatMap_at enc size he D (j / size) hk (j % size) (Nat.mod_lt _ hs0)
      rw [show j / size * size + j % size = j by rw [Nat.mul_comm]; exact hd, hu] at h3
      have h4 := hc (j % size) u h3.symm
      rw [show o + j / size * size + j % size = o + j by rw [Nat.add_assoc, Nat.mul_comm (j / size)]; rw [hd]] at h4
      exact h4) (fun u hu => by obtain ⟨x, _, hx⟩ := List.mem_flatMap.1 hu; exact h1 x u hx) (by unfold maxLen; omega) (by have := Nat.mul_le_mul hn hbytes; omega) hbase
    exact ⟨v', w', hrun, r1, r2, r4⟩
/-- the same, as a step of a region that draws -/
theorem step_append_rd {ops : Array Oper} {o : Oper} {a : Act} {K : Act → World → Prop} {Q : Exit → Act → World → Prop} {E : Prop} (hgd : o.guard = none) (s x : Operand) (t : TypeId)
    (ho : o.op = .call { callee := .builtin .append, args := #[s, x], argTypes := #[t, t] })
    (base : Nat) (e : TypeId) (i : TypeInfo) (z : Value) (size bytes : Nat) (ht : P.underlying t = some (.slice e)) (hi : P.info? e = some i) (hz : i.zero = some z) (hsize : i.size = size) (hby : i.bytes = bytes) (hzc : z.cells.size = size) (hs0 : 0 < size)
    (he : ∀ x, (enc x).length = size) (h1 : ∀ x, ∀ u ∈ enc x, u.oneCell' = true)
    (v : Value) (n : Nat) (xs : List Value) (hs : a.eval s = v) (hown : w.ownsRow base e size v n xs) (B : Nat) (A : Option Addr) (c : Nat) (D : List α) (m : Nat) (hm : m = D.length) (hx : a.eval x = .slice A m c) (hT : Rd enc size B A c D w) (hn : n + D.length ≤ 1000000) (hbytes : bytes ≤ 1000) (hbase : base ≤ w.heap.size)
    (h : ∀ v' w', w'.ownsRow base e size v' (n + D.length) (xs ++ D.flatMap enc) → w.grownBy w' v.ownBlock → (v'.ownBlock = v.ownBlock ∨ v'.ownBlock = some w.heap.size) → K (a.put o.dst v') w') :
    if Region.wanted o (yielded ops a.tmps) = true then Oper.wp P o a w K Q else E := by
  subst hm
  have hw : Region.wanted o (yielded ops a.tmps) = true := by simp [Region.wanted, hgd]
  rw [if_pos hw]
  obtain ⟨v', w', hrun, r1, r2, r3⟩ := run_append_rd (P := P) w base t o.type e i z size bytes ht hi hz hsize hby hzc hs0 he h1 v n xs hown B A c D hT hn hbytes hbase
  unfold Oper.wp
  simp [execOp, ho, resolve, invoke, builtin, hs, hx, hrun, Result.andThen]
  exact h v' w' r1 r2 r3
end
end
end Go.Proofs.YtoglbogfoolkaaaGreatDoor
