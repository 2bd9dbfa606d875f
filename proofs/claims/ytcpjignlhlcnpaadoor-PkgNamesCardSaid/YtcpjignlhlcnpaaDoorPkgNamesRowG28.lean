/- PkRich -/
import Derived.Test.YtcpjignlhlcnpaaDoorPkgNamesRowG27
import Derived.Test.YtcpjignlhlcnpaaDoorPkgNamesRowG23
set_option linter.unusedSimpArgs false
set_option linter.unusedVariables false
/- Walks: whether a rich dependency may be, as pkg.May asks it (two closures). -/


namespace Go.Proofs.YtcpjignlhlcnpaaDoor
open Go.RowKit Go.Shelf
set_option linter.unusedVariables false

def okR (wh : Int) (T : RV) : Bool := mayE wh T == 0
def mayV (b : Nat) : Value := .func (.func 19) #[] #[.pointer (some ⟨b, 0, none⟩)]
theorem held_calls {W W' : World} {b : Nat} {v : Value} (h : b < W.heap.size ∧ W.cell? ⟨b, 0, none⟩ = some v) (hb : Below W.heap.size W W') : b < W'.heap.size ∧ W'.cell? ⟨b, 0, none⟩ = some v := ⟨Nat.lt_of_lt_of_le h.1 hb.size, (hb.cell (p := ⟨b, 0, none⟩) h.1).trans h.2⟩
set_option maxRecDepth 100000 in
set_option maxHeartbeats 4000000 in
theorem may1_any (T : RV) (wh : Int) (b : Nat) (W : World) (hwh : 0 ≤ wh ∧ wh ≤ 255) (hI : PkIn W) (hKO : KO T) (hp : T.tree.parts ≤ 1000000) (hT : RTree W.heap.size W T) (hb : b < W.heap.size ∧ W.cell? ⟨b, 0, none⟩ = some (.int .u8 wh)) :
    Calls Tryd.prog 19 #[T.val, .pointer (some ⟨b, 0, none⟩)] W fun r w' => r = .returned (.bool (okR wh T)) ∧ Below W.heap.size W w' := by
  have MY := Lib.hid (fun X (h : Below W.heap.size W X) => shmay_any T wh X hwh (hI.below h) hKO hp ((hT.keeps h).more h.size))
  have b1 := (Below.refl W.heap.size W).alloc (Nat.le_refl _) (.cells #[.int .u8 T.kind, .string (bs T.dep.name), .int .u8 T.dep.op, .int .i64 T.dep.evr.epoch, .string (bs T.dep.evr.ver), .string (bs T.dep.evr.rel), .slice T.addr T.args.length T.cap] 28)
  obtain ⟨_, c0⟩ := held_calls hb b1
  have hc := hb.2
  have hl := hb.1
  unfold okR
  unfold RV.val at *
  have B1 := Lib.hid b1
  clear hI hb hT hKO hp b1
  generalize mayE wh T = r at *
  by_cases h0 : r = 0
  · rw [show (r == 0) = true by simpa using h0]
    have e1 : (r == 0) = true := by simpa using h0
    clear h0
    go_enter Tryd.func19, Tryd.ntmps19
    go_wp2_with fail
    go_at_call 20
    refine (MY.out _ B1.out).mono ?_
    rintro e w2 ⟨rfl, h⟩
    have hB := B1.out.trans (h.mono (by simp))
    clear h
    go_wp2_with fail
    go_ret
    exact ⟨rfl, hB⟩
  · rw [show (r == 0) = false by simpa using h0]
    have e1 : (r == 0) = false := by simpa using h0
    clear h0
    go_enter Tryd.func19, Tryd.ntmps19
    go_wp2_with fail
    go_at_call 20
    refine (MY.out _ B1.out).mono ?_
    rintro e w2 ⟨rfl, h⟩
    have hB := B1.out.trans (h.mono (by simp))
    clear h
    go_wp2_with fail
    go_ret
    exact ⟨rfl, hB⟩
set_option maxRecDepth 100000 in
set_option maxHeartbeats 4000000 in
theorem ev1rich_any (T : RV) (wh : Int) (b c : Nat) (W : World) (hwh : 0 ≤ wh ∧ wh ≤ 255) (hI : PkIn W) (hKO : KO T) (hp : T.tree.parts ≤ 1000000) (hT : RTree W.heap.size W T) (hb : b < W.heap.size ∧ W.cell? ⟨b, 0, none⟩ = some (.int .u8 wh)) (hc : c < W.heap.size ∧ W.cell? ⟨c, 0, none⟩ = some (mayV b)) :
    Calls Tryd.prog 38 #[T.val, .pointer (some ⟨c, 0, none⟩)] W fun r w' => r = .returned (.bool (!okR wh T)) ∧ Below W.heap.size W w' := by
  have MY := Lib.hid (fun X (h : Below W.heap.size W X) => may1_any T wh b X hwh (hI.below h) hKO hp ((hT.keeps h).more h.size) (held_calls hb h))
  have b1 := (Below.refl W.heap.size W).alloc (Nat.le_refl _) (.cells #[.int .u8 T.kind, .string (bs T.dep.name), .int .u8 T.dep.op, .int .i64 T.dep.evr.epoch, .string (bs T.dep.evr.ver), .string (bs T.dep.evr.rel), .slice T.addr T.args.length T.cap] 28)
  obtain ⟨_, c0⟩ := held_calls hc b1
  unfold mayV at c0
  unfold RV.val at *
  have B1 := Lib.hid b1
  clear hI hb hT hKO hp b1 hc
  generalize okR wh T = r at *
  go_enter Tryd.func38, Tryd.ntmps38
  go_wp2_with fail
  go_at_call 19
  refine (MY.out _ B1.out).mono ?_
  rintro e w2 ⟨rfl, h⟩
  have hB := B1.out.trans (h.mono (by simp))
  clear h
  cases r
  all_goals
    go_wp2_with fail
    go_ret
    exact ⟨rfl, hB⟩
theorem held_new (W : World) (v : Value) (t : TypeId) : W.heap.size < (W.alloc (.cells #[v] t)).heap.size ∧ (W.alloc (.cells #[v] t)).cell? ⟨W.heap.size, 0, none⟩ = some v := ⟨by simp, (World.cell?_alloc_at _ _ _ _ rfl).trans rfl⟩
/-- the function hands back p of each of these, wherever it is called from w on -/
def PredT (w : World) (g : FuncId) (cap : Array Value) (p : RV → Bool) (l : List RV) : Prop := ∀ d ∈ l, ∀ W, Below w.heap.size w W → Calls Tryd.prog g (#[d.val] ++ cap) W fun e w' => e = .returned (.bool (p d)) ∧ Below W.heap.size W w'
set_option maxRecDepth 100000 in
set_option maxHeartbeats 16000000 in
theorem idxrow_any (g : FuncId) (eg : ∀ args w, (callFunc g args).run Tryd.prog w = .ok (.enter g args) w) (cp : Array Value) (p : RV → Bool) (l : List RV) (A : Option Addr) (c : Nat) (w : World) (hl : RRow w.heap.size w A c l) (hn : l.length ≤ 1000000) (hp : PredT w g cp p l) :
    Calls Tryd.prog 53 #[.slice A l.length c, .func (.func g) #[] cp] w fun e w' => ∃ i : Int, e = .returned (.int .i64 i) ∧ (decide (0 ≤ i) = l.any p) ∧ Below w.heap.size w w' := by
  have HL := Lib.hid hl
  have HP := Lib.hid hp
  obtain ⟨n, hnn⟩ : ∃ n, n = l.length := ⟨_, rfl⟩
  rw [← hnn] at hn ⊢
  have HN := Lib.hid hnn
  clear hl hp hnn
  go_enter Tryd.func53, Tryd.ntmps53
  go_wp2_with fail
  go_loopw [8] (fun i wr => ∃ k : Nat, k ≤ n ∧ i = .int .i64 (k : Int) ∧ Hid (∀ j (hj : j < l.length), j < k → p l[j] = false) ∧ Below w.heap.size w wr) (fun i _ => n - (intOf i).toNat)
  case atStart => exact ⟨0, by omega, rfl, Lib.hid (by intro j hj h; omega), Below.refl _ _⟩
  case round =>
    obtain ⟨k, hk, rfl, hS, hB⟩ := hrel
    rename World => wr
    by_cases hlt : k < n
    · have hkl : k < l.length := by have := HN.out; omega
      obtain ⟨b, o, rfl, hb, c0, c1, c2, c3, c4, c5, c6⟩ := (HL.out.below hB).at_ hkl
      have CP := Lib.hid (HP.out _ (List.getElem_mem hkl) wr hB)
      have HT := Lib.hid (fun (h : p l[k] = true) => show l.any p = true from List.any_eq_true.2 ⟨_, List.getElem_mem hkl, h⟩)
      have HF := Lib.hid (fun (h : p l[k] = false) => show ∀ j (hj : j < l.length), j < k + 1 → p l[j] = false from fun j hj hjk => by
        by_cases e : j = k
        · subst e; exact h
        · exact hS.out j hj (by omega))
      have i0 : (0 : Int) ≤ (k : Int) := by omega
      have i1 : (k : Int) < (n : Int) := by omega
      generalize l[k] = d at *
      generalize p d = r at *
      unfold RV.val at CP
      clear hS
      go_wp2_with fail
      go_at_fn g
      refine CP.out.mono ?_
      rintro e w2 ⟨rfl, h⟩
      have hB2 := hB.trans (h.mono hB.size)
      cases r
      · go_wp2_with fail
        go_roundw
        case rel => exact ⟨k + 1, by omega, by go_num, Lib.hid (HF.out (by trivial)), hB2⟩
        case measure => simp [intOf]; omega
      · have HA := Lib.hid (show l.any p = true from HT.out (by trivial))
        go_wp2_with fail
        go_ret
        exact ⟨(k : Int), rfl, by rw [HA.out]; simp, hB2⟩
    · have i1 : ¬ (k : Int) < (n : Int) := by omega
      have HA : l.any p = false := List.any_eq_false.2 fun d hd => by obtain ⟨j, hj, rfl⟩ := List.getElem_of_mem hd; rw [hS.out j hj (by have := HN.out; omega)]; decide
      go_wp2_with fail
      go_ret
      exact ⟨-1, rfl, by decide, hB⟩
set_option maxRecDepth 100000 in
set_option maxHeartbeats 16000000 in
theorem hasrow_any (g : FuncId) (eg : ∀ args w, (callFunc g args).run Tryd.prog w = .ok (.enter g args) w) (cp : Array Value) (p : RV → Bool) (l : List RV) (A : Option Addr) (c : Nat) (w : World) (hl : RRow w.heap.size w A c l) (hn : l.length ≤ 1000000) (hp : PredT w g cp p l) :
    Calls Tryd.prog 37 #[.slice A l.length c, .func (.func g) #[] cp] w fun e w' => e = .returned (.bool (l.any p)) ∧ Below w.heap.size w w' := by
  have ID := Lib.hid (idxrow_any g eg cp p l A c w hl hn hp)
  clear hl hp
  generalize l.any p = r at *
  generalize l.length = n at *
  go_enter Tryd.func37, Tryd.ntmps37
  go_wp2_with fail
  go_at_call 53
  refine ID.out.mono ?_
  rintro e w2 ⟨i, rfl, hi, h⟩
  have HI := Lib.hid hi
  clear hi
  go_wp2
  go_ret
  exact ⟨ret_bool HI.out, h⟩
set_option maxRecDepth 100000 in
set_option maxHeartbeats 16000000 in
theorem everyrow_any (wh : Int) (hwh : 0 ≤ wh ∧ wh ≤ 255) (b0 : Nat) (l : List RV) (A : Option Addr) (c : Nat) (w : World) (hI : PkIn w) (hl : RRow w.heap.size w A c l) (hw : ∀ t ∈ l, KO t ∧ t.tree.parts ≤ 1000000) (hb0 : b0 < w.heap.size ∧ w.cell? ⟨b0, 0, none⟩ = some (.int .u8 wh)) : Calls Tryd.prog 18 #[.slice A l.length c, .int .i64 32, mayV b0] w fun r w' => r = .returned (.bool (decide (l.length ≤ 32) && l.all (okR wh))) ∧ Below w.heap.size w w' := by
  have L1 := hl.1.len
  have b1 := (Below.refl w.heap.size w).alloc (Nat.le_refl _) (.cells #[mayV b0] 52)
  have hb := held_new w (mayV b0) 52
  have HC := Lib.hid (fun (hn : l.length ≤ 32) => hasrow_any 38 (fun _ _ => rfl) #[.pointer (some ⟨w.heap.size, 0, none⟩)] (fun x => !okR wh x) l A c _ ((hl.below b1).more b1.size) (by omega) (fun d hd W hB => ev1rich_any d wh b0 _ W hwh (hI.below (b1.trans (hB.mono b1.size))) (hw d hd).1 (hw d hd).2 (((hl.2 d hd).keeps (b1.trans (hB.mono b1.size))).more (b1.trans (hB.mono b1.size)).size) (held_calls hb0 (b1.trans (hB.mono b1.size))) (held_calls hb hB)))
  have HR := Lib.hid (show (!l.any (fun x => !okR wh x)) = l.all (okR wh) from by rw [List.all_eq_not_any_not])
  clear hI hl hw
  unfold mayV
  by_cases hn : l.length ≤ 32
  · have hn2 : (l.length : Int) ≤ 32 := by omega
    have HC2 := Lib.hid (HC.out hn)
    have e : decide (l.length ≤ 32) = true := decide_eq_true hn
    rw [e, ← HR.out]
    clear e HC HR hn
    unfold mayV at HC2 b1
    generalize (l.any fun x => !okR wh x) = r at *
    generalize l.length = n at *
    go_enter Tryd.func18, Tryd.ntmps18
    go_wp2_with fail
    go_at_call 37
    refine HC2.out.mono ?_
    rintro e w2 ⟨rfl, h⟩
    have hB := b1.trans (h.mono b1.size)
    cases r
    all_goals
      go_wp2
      go_ret
      exact ⟨rfl, hB⟩
  · have hn2 : ¬ (l.length : Int) ≤ 32 := by omega
    have e : decide (l.length ≤ 32) = false := decide_eq_false hn
    rw [e]
    unfold mayV at b1
    clear e HC HR hn
    generalize l.all (okR wh) = r at *
    generalize l.length = n at *
    go_enter Tryd.func18, Tryd.ntmps18
    go_wp2
    go_ret
    exact ⟨by simp, b1⟩
end Go.Proofs.YtcpjignlhlcnpaaDoor
