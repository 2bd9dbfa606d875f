/- PoolMem2, ShCopy -/
import Derived.Test.YteobmfpbgnmffaaGreatDoorStepsNamesRowG25
import Derived.Test.YteobmfpbgnmffaaGreatDoorStepsNamesRowG27
import Derived.Test.YteobmfpbgnmffaaGreatDoorStepsNamesRowG11
set_option linter.unusedSimpArgs false
set_option linter.unusedVariables false
namespace Go.Proofs.YteobmfpbgnmffaaGreatDoor
section
/- A name's numbers, looked up and appended to, while other operations stand between. -/



open Go.RowKit Go.Shelf
set_option linter.unusedVariables false

section
variable {base mb N : Nat} {key : ByteArray} {kl : Lit} {No : Nat → Prop}
/-- what the look-up hands over -/
def LK (base mb N : Nat) (key : ByteArray) (kl : Lit) (No : Nat → Prop) (u : Value) (W : World) : Prop :=
  ∃ (zs : List Int) (D : DataW Unit), W.ownsGroups Tryz.prog 9 base 3 .i64 mb N D ∧ W.ownsInts base 3 .i64 u zs ∧ zs.length ≤ N ∧ W.groupBack Tryz.prog 122 9 base 3 .i64 mb N D (.string key) kl u ∧ W.Shuns mb No ∧ ∀ g, u.ownBlock = some g → ¬ No g
theorem LK.below {u : Value} {W W' : World} (h : LK base mb N key kl No u W) (hb : Below W.heap.size W W') : LK base mb N key kl No u W' := by
  obtain ⟨zs, D, h1, h2, h3, h4, h5, h6⟩ := h
  have hg := grown_of_below hb none
  have hm : mb < W.heap.size := by
    obtain ⟨es, clock, hh, _⟩ := h1
    exact (Array.getElem?_eq_some_iff.1 hh).1
  refine ⟨zs, D, h1.kept hg (by simp) (h5.rowsOff (by simp)), h2.kept hg (by
    cases u.ownBlock <;> simp), h3, fun w1 v' zs' k1 k2 k3 k4 => h4 w1 v' zs' ((grown_of_below hb u.ownBlock).trans k1) k2 k3 (k4.imp id fun ⟨g, e, hge⟩ => ⟨g, e, Nat.le_trans hb.size hge⟩), h5.kept hg hm (by simp), h6⟩
/-- what the append leaves -/
def AP (w : World) (base mb N : Nat) (key : ByteArray) (kl : Lit) (No No2 : Nat → Prop) (x : Int) (v' : Value) (W : World) : Prop :=
  ∃ (W2 : World) (u : Value) (zs : List Int) (D : DataW Unit), Below w.heap.size w W2 ∧ W2.ownsGroups Tryz.prog 9 base 3 .i64 mb N D ∧ W2.ownsInts base 3 .i64 u zs ∧ zs.length ≤ N ∧ W2.groupBack Tryz.prog 122 9 base 3 .i64 mb N D (.string key) kl u ∧ W2.Shuns mb No ∧ (∀ g, u.ownBlock = some g → ¬ No g) ∧
    W2.grownBy W u.ownBlock ∧ W.ownsInts base 3 .i64 v' (zs ++ [x]) ∧ (v'.ownBlock = u.ownBlock ∨ ∃ g, v'.ownBlock = some g ∧ W2.heap.size ≤ g) ∧ ∀ g, v'.ownBlock = some g → ¬ No2 g
theorem AP.below {w : World} {No2 : Nat → Prop} {x : Int} {v' : Value} {W W' : World} (h : AP w base mb N key kl No No2 x v' W) (hb : Below W.heap.size W W') : AP w base mb N key kl No No2 x v' W' := by
  obtain ⟨W2, u, zs, D, h0, h1, h2, h3, h4, h5, h6, h7, h8, h9, h10⟩ := h
  exact ⟨W2, u, zs, D, h0, h1, h2, h3, h4, h5, h6, h7.trans (grown_of_below hb _), h8.kept (grown_of_below hb none) (by cases v'.ownBlock <;> simp), h9, h10⟩
/-- one of the groups' rows has grown -/
def RelN (w : World) (base : Nat) (No : Nat → Prop) (a b : World) : Prop := ∃ row : Option Nat, (∀ j, row = some j → base ≤ j ∧ ¬ No j) ∧ a.grownBy b row
theorem RelN.two {w b c : World} (h : RelN w base No w b) (hb : Below b.heap.size b c) : RelN w base No w c := by
  obtain ⟨row, h1, h2⟩ := h
  exact ⟨row, h1, h2.trans (grown_of_below hb row)⟩
theorem RelN.three {w b c : World} (hb : Below w.heap.size w b) (h : RelN w base No b c) : RelN w base No w c := by
  obtain ⟨row, h1, h2⟩ := h
  exact ⟨row, h1, (grown_of_below hb row).trans h2⟩
/-- where nothing of what was there has turned in the end, the row had not grown -/
theorem RelN.none_ {w a b : World} (h : RelN w base No a b) (h0 : Below w.heap.size w a) (hr : ∀ g, ¬ No g → g < w.heap.size) (hb : Below w.heap.size w b) : Below a.heap.size a b := by
  obtain ⟨row, h1, h2⟩ := h
  refine ⟨h2.os, h2.tape, h2.output, h2.size, fun k hk => ?_⟩
  by_cases e : some k = row
  · obtain ⟨e1, e2⟩ := h1 k e.symm
    have hl := hr k e2
    rw [hb.block k hl, h0.block k hl]
  · exact h2.block k hk e
theorem back_none {w a b : World} (h : RelN w base No w a) (hab : Below a.heap.size a b) (hb : Below w.heap.size w b) : Below w.heap.size w a := by
  obtain ⟨row, h1, h2⟩ := h
  refine ⟨h2.os, h2.tape, h2.output, h2.size, fun k hk => ?_⟩
  rw [← hb.block k hk, hab.block k (Nat.lt_of_lt_of_le hk h2.size)]
end
theorem rel_block {base : Nat} {No : Nat → Prop} {w W : World} (h : Below w.heap.size w W ∨ RelN w base No w W) {k : Nat} (hk : k < w.heap.size) (hne : k < base ∨ No k) : W.heap[k]? = w.heap[k]? := by
  rcases h with h | ⟨row, h1, h2⟩
  · exact h.block k hk
  · exact h2.block k hk fun e => by
      obtain ⟨e1, e2⟩ := h1 k e.symm
      rcases hne with h | h
      · omega
      · exact e2 h
theorem rel_size {base : Nat} {No : Nat → Prop} {w W : World} (h : Below w.heap.size w W ∨ RelN w base No w W) : w.heap.size ≤ W.heap.size := by
  rcases h with h | ⟨row, h1, h2⟩
  · exact h.size
  · exact h2.size
theorem box15_block {b : Nat} {q : Pk} {W W' : World} (h : Box15 b q W) (hb : W'.heap[b]? = W.heap[b]?) (hs : W.heap.size ≤ W'.heap.size) : Box15 b q W' := by
  obtain ⟨⟨hl, c0, c1, c2, c3, c4, c5, c6, c7, c8, c9, c10, c11, c12, c13, c14⟩, hf, hlt⟩ := h
  have k : ∀ i, W'.cell? ⟨b, i, none⟩ = W.cell? ⟨b, i, none⟩ := fun i => World.cell?_of_block (w := W) (a := ⟨b, i, none⟩) hb
  exact ⟨⟨Nat.lt_of_lt_of_le hl hs, (k 0).trans c0, (k 1).trans c1, (k 2).trans c2, (k 3).trans c3, (k 4).trans c4, (k 5).trans c5, (k 6).trans c6, (k 7).trans c7, (k 8).trans c8, (k 9).trans c9, (k 10).trans c10, (k 11).trans c11, (k 12).trans c12, (k 13).trans c13, (k 14).trans c14⟩, fun i hi => (World.frozen?_of_block (w := W) (a := ⟨b, i, none⟩) hb).trans (hf i hi), Nat.lt_of_lt_of_le hlt hs⟩
theorem rd_block {α : Type} {enc : α → List Value} {size B g o c : Nat} {D : List α} {W W' : World} (h : Rd enc size B (some ⟨g, o, none⟩) c D W) (hb : W'.heap[g]? = W.heap[g]?) {B' : Nat} (hB : B ≤ B') : Rd enc size B' (some ⟨g, o, none⟩) c D W' := by
  refine ⟨h.1, h.2.1, fun k hk => ?_⟩
  obtain ⟨b, o', e, hlt, hc⟩ := h.2.2 k hk
  cases e
  exact ⟨g, o, rfl, Nat.lt_of_lt_of_le hlt hB, fun j u hu => (World.cell?_of_block (w := W) hb).trans (hc j u hu)⟩
theorem Shuns_weak {w : World} {b : Nat} {No No' : Nat → Prop} (h : w.Shuns b No) (hn : ∀ g, No' g → No g) : w.Shuns b No' := fun es clock hb x hx g hg hN => h es clock hb x hx g hg (hn g hN)
def encI (z : Int) : List Value := [.int .i64 z]
theorem encI_len (z : Int) : (encI z).length = 1 := rfl
theorem encI_one (z : Int) : ∀ u ∈ encI z, u.oneCell' = true := by
  intro u hu; simp only [encI, List.mem_cons, List.not_mem_nil, or_false] at hu; rw [hu]; rfl
/-- what was appended: a name's numbers, and one more -/
theorem AP.mk {w W w9 : World} {base mb N : Nat} {key : ByteArray} {kl : Lit} {No No2 : Nat → Prop} {x : Int} {u v' : Value} {zs : List Int} {D : DataW Unit} (h0 : Below w.heap.size w W) (h1 : W.ownsGroups Tryz.prog 9 base 3 .i64 mb N D) (h2 : W.ownsInts base 3 .i64 u zs) (h3 : zs.length ≤ N) (h4 : W.groupBack Tryz.prog 122 9 base 3 .i64 mb N D (.string key) kl u) (h5 : W.Shuns mb No) (h6 : ∀ g, u.ownBlock = some g → ¬ No g)
    (hN2 : ∀ g, No2 g → No g) (hN3 : ∀ g, No2 g → g < w.heap.size) (hx : (Lit.int .i64 x).wf = true)
    (ho : w9.ownsRow base 3 1 v' (zs.length + [x].length) (zs.map (Value.int .i64) ++ [x].flatMap encI)) (hg : W.grownBy w9 u.ownBlock) (hl : v'.ownBlock = u.ownBlock ∨ v'.ownBlock = some W.heap.size) : AP w base mb N key kl No No2 x v' w9 := by
  refine ⟨W, u, zs, D, h0, h1, h2, h3, h4, h5, h6, hg, h2.appended (by simpa [encI] using ho) hx, hl.imp id fun e => ⟨_, e, Nat.le_refl _⟩, fun g e hn => ?_⟩
  rcases hl with e2 | e2
  · exact h6 g (by rw [← e2]; exact e) (hN2 g hn)
  · rw [e2] at e; cases e
    have := hN3 _ hn
    have := h0.size
    omega
section
variable {α : Type} {enc : α → List Value} (w : World)
/-- append of a slice onto a row of the call's own, as an operation -/
theorem op_append_rd {P : Program} {o : Oper} {a : Act} {K : Act → World → Prop} {Q : Exit → Act → World → Prop} (s x : Operand) (t : TypeId)
    (ho : o.op = .call { callee := .builtin .append, args := #[s, x], argTypes := #[t, t] })
    (base : Nat) (e : TypeId) (i : TypeInfo) (z : Value) (size bytes : Nat) (ht : P.underlying t = some (.slice e)) (hi : P.info? e = some i) (hz : i.zero = some z) (hsize : i.size = size) (hby : i.bytes = bytes) (hzc : z.cells.size = size) (hs0 : 0 < size)
    (he : ∀ x, (enc x).length = size) (h1 : ∀ x, ∀ u ∈ enc x, u.oneCell' = true)
    (v : Value) (n : Nat) (xs : List Value) (hs : a.eval s = v) (hown : w.ownsRow base e size v n xs) (B : Nat) (A : Option Addr) (c : Nat) (D : List α) (m : Nat) (hm : m = D.length) (hx : a.eval x = .slice A m c) (hT : Rd enc size B A c D w) (hn : n + D.length ≤ 1000000) (hbytes : bytes ≤ 1000) (hbase : base ≤ w.heap.size)
    (h : ∀ v' w', w'.ownsRow base e size v' (n + D.length) (xs ++ D.flatMap enc) → w.grownBy w' v.ownBlock → (v'.ownBlock = v.ownBlock ∨ v'.ownBlock = some w.heap.size) → K (a.put o.dst v') w') : Oper.wp P o a w K Q := by
  subst hm
  obtain ⟨v', w', hrun, r1, r2, r3⟩ := run_append_rd (P := P) w base t o.type e i z size bytes ht hi hz hsize hby hzc hs0 he h1 v n xs hown B A c D hT hn hbytes hbase
  unfold Oper.wp
  simp [execOp, ho, resolve, invoke, builtin, hs, hx, hrun, Result.andThen]
  exact h v' w' r1 r2 r3

set_option maxRecDepth 100000 in
theorem op_lookup_names {o : Oper} {a : Act} {K : Act → World → Prop} {Q : Exit → Act → World → Prop} (m x : Operand) (hop : o.op = Op.lookup 122 m x false) {base mb N : Nat} {key : ByteArray} {No : Nat → Prop} (hm : a.eval m = .map (some mb)) (hx : a.eval x = .string key) (hk : key.size ≤ maxLen) (hN : N < maxLen)
    (hg : Names base mb N w) (hs : w.Shuns mb No) (h : ∀ u, LK base mb N key (.string key.data.toList) No u w → K (a.put o.dst u) w) : Oper.wp Tryz.prog o a w K Q := by
  obtain ⟨D, hD⟩ := hg
  have KS := Maps.string_keyed (P := Tryz.prog) (k := 9) Tryz.underlying9
  obtain ⟨u, zs, hrun, hat, hoi, hzl, hback⟩ := hD.at KS Tryz.underlying122 rfl hN (WideMaps.keyOf_string_mk (P := Tryz.prog) Tryz.underlying9 hk)
  have hsh : ∀ g, u.ownBlock = some g → ¬ No g := by
    obtain ⟨es, clock, hb, F, _⟩ := hD
    rcases Maps.fit_look false KS Tryz.underlying122 rfl hb F (WideMaps.keyOf_string_mk (P := Tryz.prog) Tryz.underlying9 hk) with ⟨hrun', _, _⟩ | ⟨e0, y, hm0, _, hrun', _, _, _⟩
    · rw [hrun] at hrun'
      obtain rfl : u = .slice none 0 0 := by simpa using hrun'
      intro g hg'
      cases hg'
    · rw [hrun] at hrun'
      obtain rfl : u = e0.val := by simpa using hrun'
      exact fun g hg' => hs es clock hb e0 hm0 g hg'
  unfold Oper.wp
  simp [execOp, hop, hm, hx, hrun, Result.andThen]
  exact h u ⟨zs, D, hD, hoi, hzl, hback, hs, hsh⟩
end
end
section
/- Walk: a rich dependency in new memory (shape.Copy). -/


open Go.RowKit Go.Shelf
set_option linter.unusedVariables false

set_option maxRecDepth 100000 in
set_option maxHeartbeats 16000000 in
theorem shcopy_any : ∀ (f : Nat) (t : RV) (w : World), t.ht ≤ f → t.tree.parts ≤ 1000000 → RTree w.heap.size w t → Calls Tryz.prog 69 #[t.val] w (CopyPost t w)
  | 0, t, w, hf, _, _ => absurd hf (by rw [ht_args]; omega)
  | f + 1, t, w, hf, hp, ha => by
    have IH := Lib.hid (fun x W h1 h2 h3 => shcopy_any f x W h1 h2 h3)
    have HA := Lib.hid ha.rrow
    have HF := Lib.hid (show htL t.args ≤ f by rw [ht_args] at hf; omega)
    have HP := Lib.hid (show 1 + partsL (treeL t.args) ≤ 1000000 by rw [tree_parts t, RT.parts] at hp; exact hp)
    have HL := Lib.hid (show t.args.length ≤ 999999 by have h1 := HP.out; have h2 := partsL_len (treeL t.args); rw [treeL_len] at h2; omega)
    have hm := ha.row.len
    have C0 := Lib.hid (Cp.start (w := w) (t := t))
    have hz0 : (0 : Nat) = 0 := rfl
    unfold RV.val
    clear ha hf hp hz0
    go_enter Tryz.func69, Tryz.ntmps69
    go_wp2_with fail
    go_loopw [14] (fun iv wr => ∃ (i : Nat) (l : List RV) (v : Value), i ≤ t.args.length ∧ iv = .int .i64 (i : Int) ∧ treeL l = (treeL t.args).take i ∧ Cp w t l v wr) (fun iv _ => t.args.length - (intOf iv).toNat)
    case atStart => exact ⟨0, [], .slice none 0 0, Nat.zero_le _, rfl, by simp [treeL], C0.out⟩
    case round =>
      obtain ⟨i, l, v, hi, rfl, hl, hC⟩ := hrel
      rename World => wr
      have C := Lib.hid hC
      have HTL := Lib.hid hl
      clear hC hl C0
      obtain ⟨⟨a0, a1, a2, a3, a4, a5, a6⟩, _, al⟩ := id C.out.inp
      by_cases hlt : i < t.args.length
      · have TA := ((HA.out.below C.out.old).2 _ (List.getElem_mem hlt)).more C.out.old.size
        have hwf := TA.wf
        have hht := Nat.le_trans (ht_mem (List.getElem_mem hlt)) HF.out
        have hkt : i < (treeL t.args).length := by rw [treeL_len]; exact hlt
        have hpp := partsL_get (l := treeL t.args) hkt
        rw [treeL_get t.args i hlt] at hpp
        have HC := Lib.hid (fun (W : World) (hb : Below wr.heap.size wr W) => (IH.out t.args[i] W hht (by have := HP.out; omega) ((TA.keeps hb).more hb.size)).mono fun e w' h => CopyPost.tq hwf h)
        obtain ⟨b, o, hadr, hb, e0, e1, e2, e3, e4, e5, e6⟩ := (HA.out.below C.out.old).at_ hlt
        rw [hadr] at a6 ⊢
        have HTN := Lib.hid (show ∀ rv : RV, rv.tree = t.args[i].tree → treeL (l ++ [rv]) = (treeL t.args).take (i + 1) from fun rv h => by rw [treeL_app, HTL.out, take_snoc _ _ hkt, treeL_get t.args i hlt]; simp only [treeL, h])
        have HLL := Lib.hid (show l.length ≤ 999999 by have h1 := congrArg List.length HTL.out; rw [treeL_len, List.length_take, treeL_len] at h1; have := HL.out; omega)
        have HV := Lib.hid (show ∀ b, v.ownBlock = some b → b < wr.drew.heap.size from fun b hb => (World.ownsRow.lt C.out.own b hb).2)
        obtain ⟨⟨g0, g1, g2, g3, g4, g5, g6⟩, ⟨f0, f1, f2, f3, f4, f5, f6⟩, gl⟩ := id C.out.out
        have i0 : (0 : Int) ≤ (i : Int) := by omega
        have i1 : (i : Int) < (t.args.length : Int) := by omega
        unfold RV.val at HC
        clear TA hwf hht hkt hpp IH
        generalize t.args[i] = x at *
        generalize t.args.length = n at *
        go_wp2_with fail
        have BV := Lib.hid ((Below.refl wr.heap.size wr).alloc (Nat.le_refl _) (.cells #[.int .u8 x.kind, .string (bs x.dep.name), .int .u8 x.dep.op, .int .i64 x.dep.evr.epoch, .string (bs x.dep.evr.ver), .string (bs x.dep.evr.rel), .slice x.addr x.args.length x.cap] 39))
        have C1 := Lib.hid (C.out.call BV.out)
        have XB := Lib.hid (Box7.new wr (.int .u8 x.kind) (.string (bs x.dep.name)) (.int .u8 x.dep.op) (.int .i64 x.dep.evr.epoch) (.string (bs x.dep.evr.ver)) (.string (bs x.dep.evr.rel)) (.slice x.addr x.args.length x.cap) 39)
        have HV1 := Lib.hid (show ∀ b, v.ownBlock = some b → b < (wr.alloc (.cells #[.int .u8 x.kind, .string (bs x.dep.name), .int .u8 x.dep.op, .int .i64 x.dep.evr.epoch, .string (bs x.dep.evr.ver), .string (bs x.dep.evr.rel), .slice x.addr x.args.length x.cap] 39)).drew.heap.size from fun b hb => Nat.lt_of_lt_of_le (World.ownsRow.lt C.out.own b hb).2 BV.out.drew.size)
        clear a0 a1 a2 a3 a4 a5 a6 al e0 e1 e2 e3 e4 e5 e6 g0 g1 g2 g3 g4 g5 g6 f0 f1 f2 f3 f4 f5 f6 gl
        generalize wr.alloc (.cells #[.int .u8 x.kind, .string (bs x.dep.name), .int .u8 x.dep.op, .int .i64 x.dep.evr.epoch, .string (bs x.dep.evr.ver), .string (bs x.dep.evr.rel), .slice x.addr x.args.length x.cap] 39) = V at *
        generalize wr.heap.size = kx at *
        obtain ⟨⟨g0, g1, g2, g3, g4, g5, g6⟩, ⟨f0, f1, f2, f3, f4, f5, f6⟩, gl⟩ := id C1.out.out
        obtain ⟨⟨e0, e1, e2, e3, e4, e5, e6⟩, _, el0⟩ := id XB.out
        go_region_law (first | (refine step_append_rd (P := Tryz.prog) _ rfl _ _ 25 rfl (w.heap.size + 3) 39 _ _ 7 _ (by rfl) (by rfl) (by rfl) (by rfl) (by rfl) (by rfl) (by decide) encR_len encR_one v _ _ rfl (World.ownsRow.alloc C8.out.own _) (w8.heap.size + 1) (some ⟨w8.heap.size, 0, none⟩) 1 [rv2] 1 rfl rfl (rd_lit w8 rv2) (by have := HLL.out; simp; omega) (by decide) (by have := C8.out.old.size; have := C8.out.out.2.2; simp; omega) ?_; intro v2 w9 ho2 hg2 hv2; simp only [List.length_cons, List.length_nil, Nat.zero_add, List.flatMap_cons, List.flatMap_nil, List.append_nil] at ho2; obtain ⟨y6, z6, zl⟩ := C8.out.held hg2; obtain ⟨AA, cc, rfl⟩ := own_shape ho2) | (go_simp; go_at_call 69; refine (HC.out _ BV.out.drew).mono ?_; rintro en w8 ⟨rv2, rfl, hrt2, hT2, hB8⟩; have C8 := Lib.hid ((C1.out.call (Below.refl _ _).drew).call hB8); have q6 := C8.out.out.1.2.2.2.2.2.2; have el := C8.out.out.2.2; have HT2 := Lib.hid hT2; have HRT := Lib.hid hrt2; clear hT2 hB8 hrt2; (try unfold RV.val); (try dsimp only)))
        all_goals
          have C9 := Lib.hid (C8.out.arg HT2.out (by have := C1.out.out.2.2; show w.heap.size + 3 ≤ V.heap.size; omega) HV1.out ho2 hg2 hv2)
          have HS := Lib.hid (HTN.out rv2 HRT.out)
          clear y6 z6 zl q6 el ho2 hg2 hv2 HT2 C8 e0 e1 e2 e3 e4 e5 e6 g0 g1 g2 g3 g4 g5 g6 f0 f1 f2 f3 f4 f5 f6 gl
          generalize w9.setCell ⟨w.heap.size + 2, 6, none⟩ (.slice AA (l.length + 1) cc) = w10 at *
          go_wp2_with fail
          go_roundw
          case rel => exact ⟨i + 1, l ++ [rv2], .slice AA (l.length + 1) cc, by omega, by go_num, HS.out, C9.out⟩
          case measure => simp [intOf]; omega
      · obtain rfl : i = t.args.length := by omega
        have HFULL := Lib.hid (show treeL l = treeL t.args by rw [HTL.out, List.take_of_length_le (by rw [treeL_len]; exact Nat.le_refl _)])
        have i1 : ¬ (t.args.length : Int) < (t.args.length : Int) := by omega
        obtain ⟨AA, cc, hv⟩ := own_shape C.out.own
        subst hv
        obtain ⟨⟨g0, g1, g2, g3, g4, g5, g6⟩, _, gl⟩ := id C.out.out
        obtain ⟨⟨r0, r1, r2, r3, r4, r5, r6⟩, ⟨k0, k1, k2, k3, k4, k5, k6⟩, rl⟩ := id C.out.res
        clear hlt IH HTL
        go_wp2_with fail
        have XF := C.out.res.store (.int .u8 t.kind) (.string (bs t.dep.name)) (.int .u8 t.dep.op) (.int .i64 t.dep.evr.epoch) (.string (bs t.dep.evr.ver)) (.string (bs t.dep.evr.rel)) (.slice AA l.length cc)
        have hz := store7_size (w.heap.size + 1) (.int .u8 t.kind) (.string (bs t.dep.name)) (.int .u8 t.dep.op) (.int .i64 t.dep.evr.epoch) (.string (bs t.dep.evr.ver)) (.string (bs t.dep.evr.rel)) (.slice AA l.length cc) wr
        have hk : ∀ b, b ≠ w.heap.size + 1 → (store7 (w.heap.size + 1) (.int .u8 t.kind) (.string (bs t.dep.name)) (.int .u8 t.dep.op) (.int .i64 t.dep.evr.epoch) (.string (bs t.dep.evr.ver)) (.string (bs t.dep.evr.rel)) (.slice AA l.length cc) wr).heap[b]? = wr.heap[b]? := fun b hb => store7_block _ _ _ _ _ _ _ _ _ hb
        unfold store7 at XF
        obtain ⟨⟨j0, j1, j2, j3, j4, j5, j6⟩, _⟩ := XF
        refine bodyPost_ret (v := .agg #[.int .u8 t.kind, .string (bs t.dep.name), .int .u8 t.dep.op, .int .i64 t.dep.evr.epoch, .string (bs t.dep.evr.ver), .string (bs t.dep.evr.rel), .slice AA l.length cc]) (by simp [results, Tryz.results69, go_sem, j0, j1, j2, j3, j4, j5, j6]; try rfl) rfl ?_
        exact ⟨AA, cc, l, rfl, HFULL.out, own_keep C.out.own (by omega) (fun g hg => hk g (by have := (World.ownsRow.lt C.out.own g hg).1; omega)),
          fun a ha => (C.out.tr a ha).keep (fun b hq => ⟨by omega, by have h1 := hq.2.1; exact Nat.lt_of_lt_of_eq h1 hz.symm, hq.2.2⟩) fun b hq => hk b (by omega),
          C.out.old.trans (store7_below (by omega) (Below.refl _ _) _ _ _ _ _ _ _)⟩
end
end Go.Proofs.YteobmfpbgnmffaaGreatDoor
