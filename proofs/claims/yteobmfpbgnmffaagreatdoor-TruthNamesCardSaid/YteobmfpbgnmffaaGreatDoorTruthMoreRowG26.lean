/- IxOff, ShCopy -/
import Derived.Test.YteobmfpbgnmffaaGreatDoorTruthMoreRowG25
import Derived.Test.YteobmfpbgnmffaaGreatDoorTruthMoreRowG10
import Derived.Maps.OwnSet
import Derived.Maps.RangeWalk
set_option linter.unusedSimpArgs false
set_option linter.unusedVariables false
namespace Go.Proofs.YteobmfpbgnmffaaGreatDoor
section
/- Walk: the names of what a package may provide (match.offered). -/




open Go.RowKit Go.Shelf Go.Maps
set_option linter.unusedVariables false

theorem keyedStr : Keyed Tryz.prog 9 := string_keyed (P := Tryz.prog) Tryz.underlying9
/-- names as a set -/
def setD (l : List ByteArray) : DataW Unit := setOf (.agg []) (l.map fun s => Lit.string s.data.toList)
theorem setD_snoc (l : List ByteArray) (s : ByteArray) : setD (l ++ [s]) = (setD l).put (.string s.data.toList) (.agg []) := by
  unfold setD
  rw [List.map_append, List.map_singleton, setOf_snoc]
theorem sameKey_str (a b : ByteArray) : (Lit.string a.data.toList).sameKey (.string b.data.toList) = decide (a = b) := by
  by_cases h : a = b
  · subst h
    rw [decide_eq_true rfl]
    exact WideAt.sameKey_self trivial
  · rw [decide_eq_false h]
    exact sameKey_ne (key_ne h)
theorem has_setD (l : List ByteArray) (s : ByteArray) : Maps.has (setD l) (.string s.data.toList) = hasN l s := by
  unfold setD
  rw [has_setOf _ _ _ (fun y hy => by obtain ⟨_, _, rfl⟩ := List.mem_map.1 hy; trivial), List.any_map]
  unfold hasN
  congr 1
  funext x
  exact sameKey_str x s
theorem wpList_insert_own {H : Type} {P : Program} (w : World) {ops : Array Oper} {rest : List Oper} {o : Oper} {a : Act} {Q : Exit → Act → World → Prop}
    (hg : o.guard = none) (m x v : Operand) (t : TypeId) (hop : o.op = Op.insert t m x v)
    (k e : TypeId) (K : Keyed P k) (ht : P.underlying t = some (.map k e)) (R : Value → Option (DataW H × List MemPlace)) (b n : Nat) (D : DataW H)
    (hm : a.eval m = .map (some b)) (hown : w.ownsMap P k R b n D) (hn : n < maxLen) (key val : Value) (kl : Lit) (hx : a.eval x = key) (hv : a.eval v = val) (hkey : keyOf P k key = some kl)
    (d : DataW H) (ps : List MemPlace) (hval : R val = some (d, ps))
    (hK : ∀ w', w'.ownsMap P k R b (n + 1) (D.put kl d) → w.grownBy w' (some b) → wpList P ops Q rest (a.put o.dst undef) w') :
    wpList P ops Q (o :: rest) a w := by
  refine wpList_plain hg fun K' hK' => ?_
  obtain ⟨w', hrun, r1, r2⟩ := hown.update K ht hn hkey hval
  unfold Oper.wp
  simp [execOp, hop, hm, hx, hv, hrun, Result.andThen]
  exact hK' _ _ (hK w' r1 r2)
def setK (q : Pk) (i j : Nat) : List ByteArray := q.name :: ((q.prov.map fun d => bs d.name).take i ++ q.files.take j)
theorem setK_all (q : Pk) : setK q q.prov.length q.files.length = offN q := by
  unfold setK offN
  rw [List.take_of_length_le (by rw [List.length_map]; exact Nat.le_refl _), List.take_length]
theorem setK_prov (q : Pk) {i : Nat} (h : i < q.prov.length) : setK q (i + 1) 0 = setK q i 0 ++ [bs q.prov[i].name] := by
  unfold setK
  rw [List.take_succ_eq_append_getElem (by rw [List.length_map]; exact h), List.getElem_map]
  simp
theorem setK_files (q : Pk) {j : Nat} (h : j < q.files.length) : setK q q.prov.length (j + 1) = setK q q.prov.length j ++ [q.files[j]] := by
  unfold setK
  rw [List.take_succ_eq_append_getElem h, ← List.append_assoc]
  rfl
theorem str_at {B : Nat} {A : Option Addr} {c : Nat} {l : List ByteArray} {W : World} (h : Rd (fun s => [Value.string s]) 1 B A c l W) {k : Nat} (hk : k < l.length) : ∃ b o, A = some ⟨b, o, none⟩ ∧ b < B ∧ W.cell? ⟨b, o + k, none⟩ = some (.string l[k]) := by
  obtain ⟨b, o, e, hb, hc⟩ := h.cells hk
  exact ⟨b, o, e, hb, by simpa using hc 0 _ rfl⟩
theorem dwf_name {d : Dp} (h : d.wf) : (bs d.name).size ≤ maxLen := h.1
theorem pkat_block {b : Nat} {q : Pk} {W W' : World} (h : PkAt W b q) (hb : W'.heap[b]? = W.heap[b]?) (hs : W.heap.size ≤ W'.heap.size) : PkAt W' b q :=
  kp_atA h ⟨fun i => World.cell?_of_block (w := W) (a := ⟨b, i, none⟩) hb, hs⟩
set_option maxRecDepth 100000 in
set_option maxHeartbeats 16000000 in
theorem offered_any (q : Pk) (w : World) (hL : q.Laid w.heap.size w) (hp : q.prov.length ≤ 1000000) (hf : q.files.length ≤ 1000000) : Calls Tryz.prog 149 #[q.val] w fun e w' => ∃ b, e = .returned (.map (some b)) ∧ w.heap.size ≤ b ∧ w'.ownsMap Tryz.prog 9 (unitElem (H := Unit)) b (1 + q.prov.length + q.files.length) (setD (offN q)) ∧ Below w.heap.size w w' := by
  have LP := Lib.hid (fun W (hb : Below w.heap.size w W) => (hL.prov.below hb).more hb.size)
  have LF := Lib.hid (fun W (hb : Below w.heap.size w W) => (hL.files.below hb).more hb.size)
  have WP := Lib.hid hL.provW
  have WF := Lib.hid hL.filesW
  have n0 := hL.n0
  have HK0 := Lib.hid (WideMaps.keyOf_string_mk (P := Tryz.prog) Tryz.underlying9 n0)
  have SP := Lib.hid (fun i (h : i < q.prov.length) => setK_prov q h)
  have SF := Lib.hid (fun i (h : i < q.files.length) => setK_files q h)
  have SA := Lib.hid (setK_all q)
  have S0 := Lib.hid (show setD (setK q 0 0) = (setD []).put (.string q.name.data.toList) (.agg []) from (setD_snoc [] q.name))
  obtain ⟨np, hnp⟩ : ∃ np, np = q.prov.length := ⟨_, rfl⟩
  obtain ⟨nf, hnf⟩ : ∃ nf, nf = q.files.length := ⟨_, rfl⟩
  unfold Pk.val
  rw [← hnp] at hp ⊢
  rw [← hnf] at hf ⊢
  have HNP := Lib.hid hnp
  have HNF := Lib.hid hnf
  have BX := Lib.hid (PkAt.new w q)
  rw [← hnp, ← hnf] at BX
  clear hL hnp hnf n0
  have hmm := @run_makeMap Tryz.prog
  go_enter Tryz.func149, Tryz.ntmps149
  have B0 := Lib.hid (((Below.refl w.heap.size w).alloc (Nat.le_refl _) (.cells #[.string q.name, .int .i64 q.epoch, .string q.ver, .string q.rel, .int .u8 q.arch, .string q.vendor, .slice q.provA np q.provC, .slice q.reqA q.req.length q.reqC, .slice q.conA q.con.length q.conC, .slice q.obsA q.obs.length q.obsC, .slice q.rcmA q.rcm.length q.rcmC, .slice q.supA q.sup.length q.supC, .slice q.sugA q.sug.length q.sugC, .slice q.enhA q.enh.length q.enhC, .slice q.filesA nf q.filesC] 28)).alloc (by simp) (.map #[] 0))
  have OW0 := Lib.hid (World.ownsMap_made (w.alloc (.cells #[.string q.name, .int .i64 q.epoch, .string q.ver, .string q.rel, .int .u8 q.arch, .string q.vendor, .slice q.provA np q.provC, .slice q.reqA q.req.length q.reqC, .slice q.conA q.con.length q.conC, .slice q.obsA q.obs.length q.obsC, .slice q.rcmA q.rcm.length q.rcmC, .slice q.supA q.sup.length q.supC, .slice q.sugA q.sug.length q.sugC, .slice q.enhA q.enh.length q.enhC, .slice q.filesA nf q.filesC] 28)) Tryz.prog 9 (unitElem (H := Unit)))
  have X0 := Lib.hid (BX.out.calls ((Below.refl _ _).alloc (Nat.le_refl _) (.map #[] 0)))
  have Z0 := Lib.hid (show ((w.alloc (.cells #[.string q.name, .int .i64 q.epoch, .string q.ver, .string q.rel, .int .u8 q.arch, .string q.vendor, .slice q.provA np q.provC, .slice q.reqA q.req.length q.reqC, .slice q.conA q.con.length q.conC, .slice q.obsA q.obs.length q.obsC, .slice q.rcmA q.rcm.length q.rcmC, .slice q.supA q.sup.length q.supC, .slice q.sugA q.sug.length q.sugC, .slice q.enhA q.enh.length q.enhC, .slice q.filesA nf q.filesC] 28)).alloc (.map #[] 0)).heap.size = w.heap.size + 1 + 1 by simp)
  rw [World.size_alloc] at OW0
  go_wp2_with (refine wpList_insert_own _ rfl _ _ _ 192 rfl 9 142 keyedStr Tryz.underlying192 (unitElem (H := Unit)) (w.heap.size + 1) 0 (.map []) (by simp [go_sem]) OW0.out (by unfold maxLen; omega) _ _ _ rfl rfl HK0.out _ [] unitElem_mk ?_; intro w1 hown1 hgrow1; have B1 := Lib.hid (B0.out.grown hgrow1 (by rw [Z0.out]; omega) (fun j e => by cases e; omega)); have Z1 := Lib.hid (show w.heap.size + 1 + 1 ≤ w1.heap.size by have := hgrow1.size; rw [Z0.out] at this; exact this); have X1 := Lib.hid (pkat_block X0.out (hgrow1.block w.heap.size (by rw [Z0.out]; omega) (fun e => by have := Option.some.inj e; omega)) hgrow1.size); obtain ⟨_, c0, c1, c2, c3, c4, c5, c6, c7, c8, c9, c10, c11, c12, c13, c14⟩ := X1.out; rw [← HNP.out] at c6; rw [← HNF.out] at c14; have OW1 := Lib.hid (show w1.ownsMap Tryz.prog 9 (unitElem (H := Unit)) (w.heap.size + 1) 1 (setD (setK q 0 0)) by rw [S0.out]; exact hown1); clear hown1 hgrow1 B0 OW0 X0 Z0 BX)
  go_loopw [16] (fun iv wr => ∃ i : Nat, i ≤ np ∧ iv = .int .i64 (i : Int) ∧ wr.ownsMap Tryz.prog 9 (unitElem (H := Unit)) (w.heap.size + 1) (1 + i) (setD (setK q i 0)) ∧ Below w.heap.size w wr ∧ w.heap.size + 1 + 1 ≤ wr.heap.size ∧ wr.cell? ⟨w.heap.size, 14, none⟩ = some (.slice q.filesA nf q.filesC)) (fun iv _ => np - (intOf iv).toNat)
  case atStart => exact ⟨0, Nat.zero_le _, rfl, OW1.out, B1.out, Z1.out, c14⟩
  case round =>
    obtain ⟨i, hi, rfl, hown, hB, hz, hX⟩ := hrel
    rename World => wr
    have OWN := Lib.hid hown
    have HB := Lib.hid hB
    have HZ := Lib.hid hz
    have HX := Lib.hid hX
    clear OW1 B1 Z1 X1 c0 c1 c2 c3 c4 c5 c6 c7 c8 c9 c10 c11 c12 c13 c14 hown hB hz hX
    by_cases hlt : i < np
    · have hil : i < q.prov.length := by have := HNP.out; omega
      obtain ⟨b, o, hA, hb, e0, e1, e2, e3, e4⟩ := (LP.out wr HB.out).dep_at hil
      have SPI := Lib.hid (SP.out i hil)
      have KN := Lib.hid (WideMaps.keyOf_string_mk (P := Tryz.prog) Tryz.underlying9 (dwf_name (WP.out _ (List.getElem_mem hil))))
      generalize q.prov[i] = d at *
      have j0 : (0 : Int) ≤ (i : Int) := by omega
      have j1 : (i : Int) < (np : Int) := by omega
      rw [hA]
      clear hil hA
      have O2 := Lib.hid (OWN.out.alloc (.cells #[.string (bs d.name), .int .u8 d.op, .int .i64 d.evr.epoch, .string (bs d.evr.ver), .string (bs d.evr.rel)] 37))
      have B2 := Lib.hid (HB.out.alloc HB.out.size (.cells #[.string (bs d.name), .int .u8 d.op, .int .i64 d.evr.epoch, .string (bs d.evr.ver), .string (bs d.evr.rel)] 37))
      have Z2 := Lib.hid (show (wr.alloc (.cells #[.string (bs d.name), .int .u8 d.op, .int .i64 d.evr.epoch, .string (bs d.evr.ver), .string (bs d.evr.rel)] 37)).heap.size = wr.heap.size + 1 by simp)
      have X2 := Lib.hid ((((Below.refl wr.heap.size wr).alloc (Nat.le_refl _) (.cells #[.string (bs d.name), .int .u8 d.op, .int .i64 d.evr.epoch, .string (bs d.evr.ver), .string (bs d.evr.rel)] 37)).cell (p := ⟨w.heap.size, 14, none⟩) (by have := HZ.out; show w.heap.size < wr.heap.size; omega)).trans HX.out)
      go_wp2_with (at_mapUpdate; refine wpList_mapUpdate_own _ rfl _ _ _ 192 rfl 9 142 keyedStr Tryz.underlying192 (unitElem (H := Unit)) (w.heap.size + 1) (1 + i) _ rfl O2.out (by unfold maxLen; omega) _ _ _ rfl rfl KN.out _ [] unitElem_mk ?_; intro w7 hown7 hgrow7)
      go_roundw
      case rel => exact ⟨i + 1, by omega, by go_num, by rw [SPI.out, setD_snoc]; exact hown7, B2.out.grown hgrow7 (by have := Z2.out; have := HZ.out; omega) (fun j e => by cases e; omega), by have := hgrow7.size; have := Z2.out; have := HZ.out; omega, (World.cell?_of_block (a := ⟨w.heap.size, 14, none⟩) (hgrow7.block w.heap.size (by have := Z2.out; have := HZ.out; omega) (fun e => by have := Option.some.inj e; omega))).trans X2.out⟩
      case measure => simp [intOf]; omega
    · obtain rfl : i = np := by omega
      have j1 : ¬ (i : Int) < (i : Int) := by omega
      have c14 := HX.out
      have HO := Lib.hid (show wr.ownsMap Tryz.prog 9 (unitElem (H := Unit)) (w.heap.size + 1) (1 + i + 0) (setD (setK q q.prov.length 0)) from by rw [← HNP.out]; exact OWN.out)
      clear OWN HX SP
      go_wp2_with fail
      generalize q.prov.length = np at *
      go_loopw [28] (fun iv wr => ∃ j : Nat, j ≤ nf ∧ iv = .int .i64 (j : Int) ∧ wr.ownsMap Tryz.prog 9 (unitElem (H := Unit)) (w.heap.size + 1) (1 + i + j) (setD (setK q np j)) ∧ Below w.heap.size w wr ∧ w.heap.size + 1 + 1 ≤ wr.heap.size) (fun iv _ => nf - (intOf iv).toNat)
      case atStart => exact ⟨0, Nat.zero_le _, rfl, HO.out, HB.out, HZ.out⟩
      case round =>
        obtain ⟨j, hj, rfl, hown, hB, hz⟩ := hrel
        rename World => wx
        have OWN := Lib.hid hown
        have HB2 := Lib.hid hB
        have HZ2 := Lib.hid hz
        clear HO HB HZ c14 hown hB hz
        by_cases hlt2 : j < nf
        · have hil : j < q.files.length := by have := HNF.out; omega
          obtain ⟨b, o, hA, hb, e0⟩ := str_at (LF.out wx HB2.out) hil
          have SFI := Lib.hid (SF.out j hil)
          have KN := Lib.hid (WideMaps.keyOf_string_mk (P := Tryz.prog) Tryz.underlying9 (WF.out _ (List.getElem_mem hil)))
          generalize q.files[j] = s at *
          have k0 : (0 : Int) ≤ (j : Int) := by omega
          have k1 : (j : Int) < (nf : Int) := by omega
          rw [hA]
          clear hil hA
          go_wp2_with (at_mapUpdate; refine wpList_mapUpdate_own _ rfl _ _ _ 192 rfl 9 142 keyedStr Tryz.underlying192 (unitElem (H := Unit)) (w.heap.size + 1) (1 + i + j) _ rfl OWN.out (by unfold maxLen; omega) _ _ _ rfl rfl KN.out _ [] unitElem_mk ?_; intro w7 hown7 hgrow7)
          go_roundw
          case rel => exact ⟨j + 1, by omega, by go_num, by rw [SFI.out, setD_snoc]; exact hown7, HB2.out.grown hgrow7 (by have := HZ2.out; omega) (fun j e => by cases e; omega), by have := hgrow7.size; have := HZ2.out; omega⟩
          case measure => simp [intOf]; omega
        · obtain rfl : j = nf := by omega
          have k1 : ¬ (j : Int) < (j : Int) := by omega
          go_wp2_with fail
          go_ret
          exact ⟨w.heap.size + 1, rfl, by omega, by rw [← SA.out, ← HNF.out]; exact OWN.out, HB2.out⟩
end
section
/- Walk: a rich dependency in new memory (shape.Copy). -/


open Go.RowKit Go.Shelf
set_option linter.unusedVariables false

set_option maxRecDepth 100000 in
set_option maxHeartbeats 16000000 in
theorem shcopy_any : ∀ (f : Nat) (t : RV) (w : World), t.ht ≤ f → t.tree.parts ≤ 1000000 → RTree w.heap.size w t → Calls Tryz.prog 69 #[t.val] w (CopyPost t w)
  | 0, t, w, hf, _, _ => absurd hf (by rw [ht_args]; omega)
  | f + 1, t, w, hf, hp, ha => by
    have IH := Lib.hid (fun x W h1 h2 h3 => shcopy_any f x W h1 h2 h3)
    have HA := Lib.hid ha.rrow
    have HF := Lib.hid (show htL t.args ≤ f by rw [ht_args] at hf; omega)
    have HP := Lib.hid (show 1 + partsL (treeL t.args) ≤ 1000000 by rw [tree_parts t, RT.parts] at hp; exact hp)
    have HL := Lib.hid (show t.args.length ≤ 999999 by have h1 := HP.out; have h2 := partsL_len (treeL t.args); rw [treeL_len] at h2; omega)
    have hm := ha.row.len
    have C0 := Lib.hid (Cp.start (w := w) (t := t))
    have hz0 : (0 : Nat) = 0 := rfl
    unfold RV.val
    clear ha hf hp hz0
    go_enter Tryz.func69, Tryz.ntmps69
    go_wp2_with fail
    go_loopw [14] (fun iv wr => ∃ (i : Nat) (l : List RV) (v : Value), i ≤ t.args.length ∧ iv = .int .i64 (i : Int) ∧ treeL l = (treeL t.args).take i ∧ Cp w t l v wr) (fun iv _ => t.args.length - (intOf iv).toNat)
    case atStart => exact ⟨0, [], .slice none 0 0, Nat.zero_le _, rfl, by simp [treeL], C0.out⟩
    case round =>
      obtain ⟨i, l, v, hi, rfl, hl, hC⟩ := hrel
      rename World => wr
      have C := Lib.hid hC
      have HTL := Lib.hid hl
      clear hC hl C0
      obtain ⟨⟨a0, a1, a2, a3, a4, a5, a6⟩, _, al⟩ := id C.out.inp
      by_cases hlt : i < t.args.length
      · have TA := ((HA.out.below C.out.old).2 _ (List.getElem_mem hlt)).more C.out.old.size
        have hwf := TA.wf
        have hht := Nat.le_trans (ht_mem (List.getElem_mem hlt)) HF.out
        have hkt : i < (treeL t.args).length := by rw [treeL_len]; exact hlt
        have hpp := partsL_get (l := treeL t.args) hkt
        rw [treeL_get t.args i hlt] at hpp
        have HC := Lib.hid (fun (W : World) (hb : Below wr.heap.size wr W) => (IH.out t.args[i] W hht (by have := HP.out; omega) ((TA.keeps hb).more hb.size)).mono fun e w' h => CopyPost.tq hwf h)
        obtain ⟨b, o, hadr, hb, e0, e1, e2, e3, e4, e5, e6⟩ := (HA.out.below C.out.old).at_ hlt
        rw [hadr] at a6 ⊢
        have HTN := Lib.hid (show ∀ rv : RV, rv.tree = t.args[i].tree → treeL (l ++ [rv]) = (treeL t.args).take (i + 1) from fun rv h => by rw [treeL_app, HTL.out, take_snoc _ _ hkt, treeL_get t.args i hlt]; simp only [treeL, h])
        have HLL := Lib.hid (show l.length ≤ 999999 by have h1 := congrArg List.length HTL.out; rw [treeL_len, List.length_take, treeL_len] at h1; have := HL.out; omega)
        have HV := Lib.hid (show ∀ b, v.ownBlock = some b → b < wr.drew.heap.size from fun b hb => (World.ownsRow.lt C.out.own b hb).2)
        obtain ⟨⟨g0, g1, g2, g3, g4, g5, g6⟩, ⟨f0, f1, f2, f3, f4, f5, f6⟩, gl⟩ := id C.out.out
        have i0 : (0 : Int) ≤ (i : Int) := by omega
        have i1 : (i : Int) < (t.args.length : Int) := by omega
        unfold RV.val at HC
        clear TA hwf hht hkt hpp IH
        generalize t.args[i] = x at *
        generalize t.args.length = n at *
        go_wp2_with fail
        have BV := Lib.hid ((Below.refl wr.heap.size wr).alloc (Nat.le_refl _) (.cells #[.int .u8 x.kind, .string (bs x.dep.name), .int .u8 x.dep.op, .int .i64 x.dep.evr.epoch, .string (bs x.dep.evr.ver), .string (bs x.dep.evr.rel), .slice x.addr x.args.length x.cap] 39))
        have C1 := Lib.hid (C.out.call BV.out)
        have XB := Lib.hid (Box7.new wr (.int .u8 x.kind) (.string (bs x.dep.name)) (.int .u8 x.dep.op) (.int .i64 x.dep.evr.epoch) (.string (bs x.dep.evr.ver)) (.string (bs x.dep.evr.rel)) (.slice x.addr x.args.length x.cap) 39)
        have HV1 := Lib.hid (show ∀ b, v.ownBlock = some b → b < (wr.alloc (.cells #[.int .u8 x.kind, .string (bs x.dep.name), .int .u8 x.dep.op, .int .i64 x.dep.evr.epoch, .string (bs x.dep.evr.ver), .string (bs x.dep.evr.rel), .slice x.addr x.args.length x.cap] 39)).drew.heap.size from fun b hb => Nat.lt_of_lt_of_le (World.ownsRow.lt C.out.own b hb).2 BV.out.drew.size)
        clear a0 a1 a2 a3 a4 a5 a6 al e0 e1 e2 e3 e4 e5 e6 g0 g1 g2 g3 g4 g5 g6 f0 f1 f2 f3 f4 f5 f6 gl
        generalize wr.alloc (.cells #[.int .u8 x.kind, .string (bs x.dep.name), .int .u8 x.dep.op, .int .i64 x.dep.evr.epoch, .string (bs x.dep.evr.ver), .string (bs x.dep.evr.rel), .slice x.addr x.args.length x.cap] 39) = V at *
        generalize wr.heap.size = kx at *
        obtain ⟨⟨g0, g1, g2, g3, g4, g5, g6⟩, ⟨f0, f1, f2, f3, f4, f5, f6⟩, gl⟩ := id C1.out.out
        obtain ⟨⟨e0, e1, e2, e3, e4, e5, e6⟩, _, el0⟩ := id XB.out
        go_region_law (first | (refine step_append_rd (P := Tryz.prog) _ rfl _ _ 25 rfl (w.heap.size + 3) 39 _ _ 7 _ (by rfl) (by rfl) (by rfl) (by rfl) (by rfl) (by rfl) (by decide) encR_len encR_one v _ _ rfl (World.ownsRow.alloc C8.out.own _) (w8.heap.size + 1) (some ⟨w8.heap.size, 0, none⟩) 1 [rv2] 1 rfl rfl (rd_lit w8 rv2) (by have := HLL.out; simp; omega) (by decide) (by have := C8.out.old.size; have := C8.out.out.2.2; simp; omega) ?_; intro v2 w9 ho2 hg2 hv2; simp only [List.length_cons, List.length_nil, Nat.zero_add, List.flatMap_cons, List.flatMap_nil, List.append_nil] at ho2; obtain ⟨y6, z6, zl⟩ := C8.out.held hg2; obtain ⟨AA, cc, rfl⟩ := own_shape ho2) | (go_simp; go_at_call 69; refine (HC.out _ BV.out.drew).mono ?_; rintro en w8 ⟨rv2, rfl, hrt2, hT2, hB8⟩; have C8 := Lib.hid ((C1.out.call (Below.refl _ _).drew).call hB8); have q6 := C8.out.out.1.2.2.2.2.2.2; have el := C8.out.out.2.2; have HT2 := Lib.hid hT2; have HRT := Lib.hid hrt2; clear hT2 hB8 hrt2; (try unfold RV.val); (try dsimp only)))
        all_goals
          have C9 := Lib.hid (C8.out.arg HT2.out (by have := C1.out.out.2.2; show w.heap.size + 3 ≤ V.heap.size; omega) HV1.out ho2 hg2 hv2)
          have HS := Lib.hid (HTN.out rv2 HRT.out)
          clear y6 z6 zl q6 el ho2 hg2 hv2 HT2 C8 e0 e1 e2 e3 e4 e5 e6 g0 g1 g2 g3 g4 g5 g6 f0 f1 f2 f3 f4 f5 f6 gl
          generalize w9.setCell ⟨w.heap.size + 2, 6, none⟩ (.slice AA (l.length + 1) cc) = w10 at *
          go_wp2_with fail
          go_roundw
          case rel => exact ⟨i + 1, l ++ [rv2], .slice AA (l.length + 1) cc, by omega, by go_num, HS.out, C9.out⟩
          case measure => simp [intOf]; omega
      · obtain rfl : i = t.args.length := by omega
        have HFULL := Lib.hid (show treeL l = treeL t.args by rw [HTL.out, List.take_of_length_le (by rw [treeL_len]; exact Nat.le_refl _)])
        have i1 : ¬ (t.args.length : Int) < (t.args.length : Int) := by omega
        obtain ⟨AA, cc, hv⟩ := own_shape C.out.own
        subst hv
        obtain ⟨⟨g0, g1, g2, g3, g4, g5, g6⟩, _, gl⟩ := id C.out.out
        obtain ⟨⟨r0, r1, r2, r3, r4, r5, r6⟩, ⟨k0, k1, k2, k3, k4, k5, k6⟩, rl⟩ := id C.out.res
        clear hlt IH HTL
        go_wp2_with fail
        have XF := C.out.res.store (.int .u8 t.kind) (.string (bs t.dep.name)) (.int .u8 t.dep.op) (.int .i64 t.dep.evr.epoch) (.string (bs t.dep.evr.ver)) (.string (bs t.dep.evr.rel)) (.slice AA l.length cc)
        have hz := store7_size (w.heap.size + 1) (.int .u8 t.kind) (.string (bs t.dep.name)) (.int .u8 t.dep.op) (.int .i64 t.dep.evr.epoch) (.string (bs t.dep.evr.ver)) (.string (bs t.dep.evr.rel)) (.slice AA l.length cc) wr
        have hk : ∀ b, b ≠ w.heap.size + 1 → (store7 (w.heap.size + 1) (.int .u8 t.kind) (.string (bs t.dep.name)) (.int .u8 t.dep.op) (.int .i64 t.dep.evr.epoch) (.string (bs t.dep.evr.ver)) (.string (bs t.dep.evr.rel)) (.slice AA l.length cc) wr).heap[b]? = wr.heap[b]? := fun b hb => store7_block _ _ _ _ _ _ _ _ _ hb
        unfold store7 at XF
        obtain ⟨⟨j0, j1, j2, j3, j4, j5, j6⟩, _⟩ := XF
        refine bodyPost_ret (v := .agg #[.int .u8 t.kind, .string (bs t.dep.name), .int .u8 t.dep.op, .int .i64 t.dep.evr.epoch, .string (bs t.dep.evr.ver), .string (bs t.dep.evr.rel), .slice AA l.length cc]) (by simp [results, Tryz.results69, go_sem, j0, j1, j2, j3, j4, j5, j6]; try rfl) rfl ?_
        exact ⟨AA, cc, l, rfl, HFULL.out, own_keep C.out.own (by omega) (fun g hg => hk g (by have := (World.ownsRow.lt C.out.own g hg).1; omega)),
          fun a ha => (C.out.tr a ha).keep (fun b hq => ⟨by omega, by have h1 := hq.2.1; exact Nat.lt_of_lt_of_eq h1 hz.symm, hq.2.2⟩) fun b hq => hk b (by omega),
          C.out.old.trans (store7_below (by omega) (Below.refl _ _) _ _ _ _ _ _ _)⟩
end
end Go.Proofs.YteobmfpbgnmffaaGreatDoor
