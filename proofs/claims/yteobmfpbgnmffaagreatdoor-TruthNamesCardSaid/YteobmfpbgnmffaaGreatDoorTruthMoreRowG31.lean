/- PoolPkg, SliceI, R12Mem -/
import Derived.Test.YteobmfpbgnmffaaGreatDoorTruthMoreRowG29
import Derived.Test.YteobmfpbgnmffaaGreatDoorTruthMoreRowG23
import Derived.Test.YteobmfpbgnmffaaGreatDoorTruthMoreRowG22
import Derived.Test.YteobmfpbgnmffaaGreatDoorTruthMoreRowG19
set_option linter.unusedSimpArgs false
set_option linter.unusedVariables false
namespace Go.Proofs.YteobmfpbgnmffaaGreatDoor
section
/- Walk: the package of a number ((*pool.Pool).Package). -/


open Go.RowKit Go.Shelf
set_option linter.unusedVariables false

theorem heap_setL {b c : Nat} (h : b ≠ c) : ∀ (l : List Value) (i : Nat) (W : World), (setL c i l W).heap[b]? = W.heap[b]?
  | [], _, _ => rfl
  | v :: l, i, W => by rw [setL, heap_setL h l]; exact Below.heap_setCell _ _ _ _ h
theorem setL_size {c : Nat} : ∀ (l : List Value) (i : Nat) (W : World), (setL c i l W).heap.size = W.heap.size
  | [], _, _ => rfl
  | v :: l, i, W => by rw [setL, setL_size l]; simp [World.setCell]
set_option maxRecDepth 100000 in
set_option maxHeartbeats 16000000 in
theorem poolpkg_own {P : Nat} {I : Int} {L : List Pr} {w : World} (hp : Pool P I L w) {k : Nat} (hk : k < L.length) (hn0 : L.length ≤ 1000000) : Calls Tryz.prog 48 #[.pointer (some ⟨P, 0, none⟩), .int .i64 (k : Int)] w fun e w' => ∃ q : Pk, e = .returned (.tuple #[q.val, .int .i64 0]) ∧ Alike L[k].pk q ∧ PkOwn (w.heap.size + 1) q w' ∧ Below w.heap.size w w' := by
  have hn : L.length ≤ 1000000 := hn0
  obtain ⟨A, c, h0, hr⟩ := hp.at_.row
  have HRD := Lib.hid hr
  have hlt := hp.at_.lt
  obtain ⟨x, hx⟩ : ∃ x, L[k].pk = x := ⟨_, rfl⟩
  have LX := Lib.hid (fun W (hb : Below w.heap.size w W) => show x.Laid W.heap.size W from hx ▸ (hp.then hb).at_.laid _ (List.getElem_mem hk))
  have FX := Lib.hid (show x.few from hx ▸ (hp.may _ (List.getElem_mem hk)).2)
  have CP := Lib.hid (fun W (h : x.Laid W.heap.size W) => pkcopy_any x W h FX.out)
  unfold Pk.val at CP
  have IS := Lib.hid (fun A c (W : World) => prows_is A c (k : Int) L.length W hn)
  rw [hx]
  obtain ⟨b, o, hA, hrest⟩ := hr.cells hk
  clear hrest
  have CE := Lib.hid (fun W (hb : Below w.heap.size w W) => pr_cells (hr.below hb) hk hA hx)
  obtain ⟨n, hn9⟩ : ∃ n, n = L.length := ⟨_, rfl⟩
  rw [← hn9] at h0 IS hn
  have k0 : (0 : Int) ≤ (k : Int) := by omega
  have k1 : (k : Int) < (n : Int) := by omega
  have F1 := Lib.hid (show decide (0 ≤ (k : Int) ∧ (k : Int) < (n : Int)) = true from decide_eq_true ⟨k0, k1⟩)
  subst hA
  clear hp hr hx hk hn9 hn hn0 HRD
  have B0 := (Below.refl w.heap.size w).alloc (Nat.le_refl _) (.cells #[.string ⟨#[]⟩, .int .i64 0, .string ⟨#[]⟩, .string ⟨#[]⟩, .int .u8 0, .string ⟨#[]⟩, .slice none 0 0, .slice none 0 0, .slice none 0 0, .slice none 0 0, .slice none 0 0, .slice none 0 0, .slice none 0 0, .slice none 0 0, .slice none 0 0] 28)
  have C0 := Lib.hid ((B0.cell (p := ⟨P, 0, none⟩) hlt).trans h0)
  have B0 := Lib.hid B0
  have Z0 := Lib.hid (Box15.new w)
  go_enter Tryz.func48, Tryz.ntmps48
  go_wp2_with fail
  go_at_call 102
  refine (IS.out _ _ _).mono ?_
  rintro e w1 ⟨rfl, h⟩
  rw [F1.out]
  have S1 := Lib.hid (show w.heap.size + 1 ≤ w1.heap.size by have := h.size; simpa using this)
  have B1 := Lib.hid (B0.out.trans (h.mono B0.out.size))
  have Z1 := Lib.hid (Z0.out.then h)
  have c0 := (h.cell (p := ⟨P, 0, none⟩) (Nat.lt_of_lt_of_le hlt B0.out.size)).trans C0.out
  obtain ⟨d0, d1, d2, d3, d4, d5, d6, d7, d8, d9, d10, d11, d12, d13, d14⟩ := CE.out _ B1.out
  clear h B0 Z0 C0 h0 F1
  go_wp2_with fail
  go_at_call 16
  refine (CP.out _ (LX.out _ B1.out)).mono ?_
  rintro e w2 ⟨q, rfl, ha, hq, h⟩
  have B2 := Lib.hid (B1.out.trans (h.mono B1.out.size))
  have Z2 := Lib.hid (Z1.out.then h)
  have HA := Lib.hid ha
  have HQ := Lib.hid (hq.more S1.out)
  clear h ha hq B1 Z1 S1 c0 d0 d1 d2 d3 d4 d5 d6 d7 d8 d9 d10 d11 d12 d13 d14
  obtain ⟨⟨zl, z0, z1, z2, z3, z4, z5, z6, z7, z8, z9, z10, z11, z12, z13, z14⟩, fz, _⟩ := Z2.out
  have f0 := fz 0 (by omega)
  have f1 := fz 1 (by omega)
  have f2 := fz 2 (by omega)
  have f3 := fz 3 (by omega)
  have f4 := fz 4 (by omega)
  have f5 := fz 5 (by omega)
  have f6 := fz 6 (by omega)
  have f7 := fz 7 (by omega)
  have f8 := fz 8 (by omega)
  have f9 := fz 9 (by omega)
  have f10 := fz 10 (by omega)
  have f11 := fz 11 (by omega)
  have f12 := fz 12 (by omega)
  have f13 := fz 13 (by omega)
  have f14 := fz 14 (by omega)
  have R1 := Lib.hid (Z2.out.set q)
  have R3 := Lib.hid (setL_below (B := w.heap.size) (R := w.heap.size) (Nat.le_refl _) q.cells 0 w2)
  have RQ := Lib.hid (HQ.out.keepB (W' := setL w.heap.size 0 q.cells w2) (by rw [setL_size]; exact Nat.le_refl _) (fun b h1 _ => heap_setL (show b ≠ w.heap.size by omega) _ _ _))
  clear fz zl HQ
  unfold zPk at z0 z1 z2 z3 z4 z5 z6 z7 z8 z9 z10 z11 z12 z13 z14
  go_wp2_with fail
  obtain ⟨Y, hY⟩ : ∃ Y, Y = setL w.heap.size 0 q.cells w2 := ⟨_, rfl⟩
  have hY2 := hY
  simp only [setL, Pk.cells, Nat.zero_add, Nat.reduceAdd] at hY2
  rw [← hY2]
  rw [← hY] at R1 R3 RQ
  clear hY hY2 z0 z1 z2 z3 z4 z5 z6 z7 z8 z9 z10 z11 z12 z13 z14
  obtain ⟨⟨_, c0, c1, c2, c3, c4, c5, c6, c7, c8, c9, c10, c11, c12, c13, c14⟩, _, _⟩ := R1.out
  refine bodyPost_ret (v := .tuple #[q.val, .int .i64 0]) (by simp [Pk.val, results, Tryz.results48, go_sem, c0, c1, c2, c3, c4, c5, c6, c7, c8, c9, c10, c11, c12, c13, c14]; try rfl) rfl ?_
  exact ⟨q, rfl, HA.out, RQ.out, B2.out.trans R3.out⟩
end
section
/- Walks: slices.IndexFunc, ContainsFunc, Index, Contains over numbers. -/


open Go.RowKit Go.Shelf
set_option linter.unusedVariables false

def PredI (w : World) (g : FuncId) (cap : Array Value) (p : Int → Bool) (l : List Int) : Prop := ∀ s ∈ l, ∀ W, Below w.heap.size w W → Calls Tryz.prog g (#[.int .i64 s] ++ cap) W fun e w' => e = .returned (.bool (p s)) ∧ Below W.heap.size W w'
set_option maxRecDepth 100000 in
set_option maxHeartbeats 16000000 in
theorem idxintf_any (g : FuncId) (eg : ∀ args w, (callFunc g args).run Tryz.prog w = .ok (.enter g args) w) (cp : Array Value) (p : Int → Bool) (l : List Int) (A : Option Addr) (c : Nat) (w : World) (hl : Rd encI 1 w.heap.size A c l w) (hn : l.length ≤ 1000000) (hp : PredI w g cp p l) :
    Calls Tryz.prog 156 #[.slice A l.length c, .func (.func g) #[] cp] w fun e w' => ∃ i : Int, e = .returned (.int .i64 i) ∧ (decide (0 ≤ i) = l.any (p)) ∧ Below w.heap.size w w' := by
  have HL := Lib.hid hl
  have HP := Lib.hid hp
  clear hp
  obtain ⟨n, hnn⟩ : ∃ n, n = l.length := ⟨_, rfl⟩
  rw [← hnn] at hn ⊢
  have HN := Lib.hid hnn
  clear hl hnn
  go_enter Tryz.func156, Tryz.ntmps156
  go_wp2_with fail
  go_loopw [8] (fun i wr => ∃ k : Nat, k ≤ n ∧ i = .int .i64 (k : Int) ∧ Hid (∀ j (hj : j < l.length), j < k → (p) l[j] = false) ∧ Below w.heap.size w wr) (fun i _ => n - (intOf i).toNat)
  case atStart => exact ⟨0, by omega, rfl, Lib.hid (by intro j hj h; omega), Below.refl _ _⟩
  case round =>
    obtain ⟨k, hk, rfl, hS, hB⟩ := hrel
    rename World => wr
    by_cases hlt : k < n
    · have hkl : k < l.length := by have := HN.out; omega
      obtain ⟨b, o, rfl, hb, c0⟩ := (HL.out.below hB).at1 (f := fun s => Value.int .i64 s) (fun _ => rfl) hkl
      have CP := Lib.hid (HP.out _ (List.getElem_mem hkl) wr hB)
      have HT := Lib.hid (fun (h : (p) l[k] = true) => show l.any (p) = true from List.any_eq_true.2 ⟨_, List.getElem_mem hkl, h⟩)
      have HF := Lib.hid (fun (h : (p) l[k] = false) => show ∀ j (hj : j < l.length), j < k + 1 → (p) l[j] = false from fun j hj hjk => by
        by_cases e : j = k
        · subst e; exact h
        · exact hS.out j hj (by omega))
      have i0 : (0 : Int) ≤ (k : Int) := by omega
      have i1 : (k : Int) < (n : Int) := by omega
      generalize l[k] = d at *
      generalize p d = r at *
      clear hS
      go_wp2_with fail
      go_at_fn g
      refine CP.out.mono ?_
      rintro e w2 ⟨rfl, h⟩
      have hB2 := hB.trans (h.mono hB.size)
      cases r
      · have HF2 := Lib.hid (HF.out (by trivial))
        go_wp2_with fail
        go_roundw
        case rel => exact ⟨k + 1, by omega, by go_num, HF2, hB2⟩
        case measure => simp [intOf]; omega
      · have HA := Lib.hid (show l.any p = true from HT.out (by trivial))
        go_wp2_with fail
        go_ret
        exact ⟨(k : Int), rfl, by rw [HA.out]; simp, hB2⟩
    · have i1 : ¬ (k : Int) < (n : Int) := by omega
      have HA := Lib.hid (show l.any (p) = false from List.any_eq_false.2 fun d hd => by obtain ⟨j, hj, rfl⟩ := List.getElem_of_mem hd; exact fun e => Bool.false_ne_true ((hS.out j hj (by have := HN.out; omega)).symm.trans e))
      go_wp2_with fail
      go_ret
      exact ⟨-1, rfl, by rw [HA.out]; decide, hB⟩
set_option maxRecDepth 100000 in
set_option maxHeartbeats 16000000 in
theorem idxint_any (x : Int) (l : List Int) (A : Option Addr) (c : Nat) (w : World) (hl : Rd encI 1 w.heap.size A c l w) (hn : l.length ≤ 1000000) :
    Calls Tryz.prog 190 #[.slice A l.length c, .int .i64 x] w fun e w' => ∃ i : Int, e = .returned (.int .i64 i) ∧ (decide (0 ≤ i) = l.any (fun s => x == s)) ∧ Below w.heap.size w w' := by
  have HL := Lib.hid hl
  obtain ⟨n, hnn⟩ : ∃ n, n = l.length := ⟨_, rfl⟩
  rw [← hnn] at hn ⊢
  have HN := Lib.hid hnn
  clear hl hnn
  go_enter Tryz.func190, Tryz.ntmps190
  go_wp2_with fail
  go_loopw [8] (fun i wr => ∃ k : Nat, k ≤ n ∧ i = .int .i64 (k : Int) ∧ Hid (∀ j (hj : j < l.length), j < k → (fun s => x == s) l[j] = false) ∧ Below w.heap.size w wr) (fun i _ => n - (intOf i).toNat)
  case atStart => exact ⟨0, by omega, rfl, Lib.hid (by intro j hj h; omega), Below.refl _ _⟩
  case round =>
    obtain ⟨k, hk, rfl, hS, hB⟩ := hrel
    rename World => wr
    by_cases hlt : k < n
    · have hkl : k < l.length := by have := HN.out; omega
      obtain ⟨b, o, rfl, hb, c0⟩ := (HL.out.below hB).at1 (f := fun s => Value.int .i64 s) (fun _ => rfl) hkl
      have HT := Lib.hid (fun (h : (fun s => x == s) l[k] = true) => show l.any (fun s => x == s) = true from List.any_eq_true.2 ⟨_, List.getElem_mem hkl, h⟩)
      have HF := Lib.hid (fun (h : (fun s => x == s) l[k] = false) => show ∀ j (hj : j < l.length), j < k + 1 → (fun s => x == s) l[j] = false from fun j hj hjk => by
        by_cases e : j = k
        · subst e; exact h
        · exact hS.out j hj (by omega))
      have i0 : (0 : Int) ≤ (k : Int) := by omega
      have i1 : (k : Int) < (n : Int) := by omega
      generalize l[k] = d at *
      clear hS
      cases hr : (x == d)
      · have HF2 := Lib.hid (HF.out hr)
        have hr' : ¬ x = d := beq_eq_false_iff_ne.1 hr
        go_wp2_with fail
        go_roundw
        case rel => exact ⟨k + 1, by omega, by go_num, HF2, hB⟩
        case measure => simp [intOf]; omega
      · have HA := Lib.hid (HT.out hr)
        obtain rfl : x = d := beq_iff_eq.1 hr
        go_wp2_with fail
        go_ret
        exact ⟨(k : Int), rfl, by rw [HA.out]; simp, hB⟩
    · have i1 : ¬ (k : Int) < (n : Int) := by omega
      have HA := Lib.hid (show l.any (fun s => x == s) = false from List.any_eq_false.2 fun d hd => by obtain ⟨j, hj, rfl⟩ := List.getElem_of_mem hd; exact fun e => Bool.false_ne_true ((hS.out j hj (by have := HN.out; omega)).symm.trans e))
      go_wp2_with fail
      go_ret
      exact ⟨-1, rfl, by rw [HA.out]; decide, hB⟩
set_option maxRecDepth 100000 in
set_option maxHeartbeats 16000000 in
theorem hasintf_any (g : FuncId) (eg : ∀ args w, (callFunc g args).run Tryz.prog w = .ok (.enter g args) w) (cp : Array Value) (p : Int → Bool) (l : List Int) (A : Option Addr) (c : Nat) (w : World) (hl : Rd encI 1 w.heap.size A c l w) (hn : l.length ≤ 1000000) (hp : PredI w g cp p l) :
    Calls Tryz.prog 181 #[.slice A l.length c, .func (.func g) #[] cp] w fun e w' => e = .returned (.bool (l.any (p))) ∧ Below w.heap.size w w' := by
  have ID := Lib.hid (idxintf_any g eg cp p l A c w hl hn hp)
  clear hl
  generalize l.any (p) = r at *
  generalize l.length = n at *
  go_enter Tryz.func181, Tryz.ntmps181
  go_wp2_with fail
  go_at_call 156
  refine ID.out.mono ?_
  rintro e w2 ⟨i, rfl, hi, h⟩
  have HI := Lib.hid hi
  clear hi
  go_wp2
  go_ret
  exact ⟨ret_bool HI.out, h⟩
set_option maxRecDepth 100000 in
set_option maxHeartbeats 16000000 in
theorem hasint_any (x : Int) (l : List Int) (A : Option Addr) (c : Nat) (w : World) (hl : Rd encI 1 w.heap.size A c l w) (hn : l.length ≤ 1000000) :
    Calls Tryz.prog 150 #[.slice A l.length c, .int .i64 x] w fun e w' => e = .returned (.bool (l.any (fun s => x == s))) ∧ Below w.heap.size w w' := by
  have ID := Lib.hid (idxint_any x l A c w hl hn)
  clear hl
  generalize l.any (fun s => x == s) = r at *
  generalize l.length = n at *
  go_enter Tryz.func150, Tryz.ntmps150
  go_wp2_with fail
  go_at_call 190
  refine ID.out.mono ?_
  rintro e w2 ⟨i, rfl, hi, h⟩
  have HI := Lib.hid hi
  clear hi
  go_wp2
  go_ret
  exact ⟨ret_bool HI.out, h⟩
end
section
/- A pool as the reference lays it: its packages, and of each its repository and priority, in three rows. -/




open Go.RowKit Go.Shelf
set_option linter.unusedVariables false

def AlikeL (l L : List Pk) : Prop := L.length = l.length ∧ ∀ (i : Nat) (h : i < l.length) (h' : i < L.length), Alike l[i] L[i]
theorem AlikeL.nil : AlikeL [] [] := ⟨rfl, fun i h => absurd h (Nat.not_lt_zero _)⟩
theorem AlikeL.snoc {l L : List Pk} {x q : Pk} (h : AlikeL l L) (hx : Alike x q) : AlikeL (l ++ [x]) (L ++ [q]) := by
  refine ⟨by simp [h.1], fun i hi hi' => ?_⟩
  by_cases hlt : i < l.length
  · rw [List.getElem_append_left hlt, List.getElem_append_left (by rw [h.1]; exact hlt)]
    exact h.2 i hlt (by rw [h.1]; exact hlt)
  · have e : i = l.length := by rw [List.length_append, List.length_singleton] at hi; omega
    subst e
    rw [List.getElem_append_right (Nat.le_refl _), List.getElem_append_right (by rw [h.1]; exact Nat.le_refl _)]
    simpa [h.1] using hx
section
variable {w0 : World} {Q base B : Nat} {I rp pr : Int} {L : List Pk} {RB RC : List Int} {No : Nat → Prop} {va vb vc v u t : Value} {W W' V : World} {row ra rb rc : Option Nat} {x q : Pk} {No' : Nat → Prop}
section
variable {iA iB iC s0 s2 s3 j k : Nat}
end
end
end
end Go.Proofs.YteobmfpbgnmffaaGreatDoor
