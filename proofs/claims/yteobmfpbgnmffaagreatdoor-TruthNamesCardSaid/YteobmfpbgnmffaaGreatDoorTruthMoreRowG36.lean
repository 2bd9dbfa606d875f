/- TrIs3, TrIs4 -/
import Derived.Test.YteobmfpbgnmffaaGreatDoorTruthMoreRowG35
import Derived.Test.YteobmfpbgnmffaaGreatDoorTruthMoreRowG33
set_option linter.unusedSimpArgs false
set_option linter.unusedVariables false
namespace Go.Proofs.YteobmfpbgnmffaaGreatDoor
section
/- Walks: Or, With and Without, and whether a package of a state alone does something (truth.asked: or, one, with, without). -/



open Go.RowKit Go.Shelf
set_option linter.unusedVariables false

set_option maxRecDepth 100000 in
set_option maxHeartbeats 16000000 in
theorem idxrowh_any (g : FuncId) (eg : ∀ args w, (callFunc g args).run Tryz.prog w = .ok (.enter g args) w) (cp : Value) (p : RV → Bool) (l : List RV) (A : Option Addr) (c : Nat) (w : World) (hl : RRow w.heap.size w A c l) (hn : l.length ≤ 1000000) (hp : PredH w g #[cp] p l) :
    Calls Tryz.prog 195 #[.slice A l.length c, .func (.func g) #[cp] #[]] w fun e w' => ∃ i : Int, e = .returned (.int .i64 i) ∧ (decide (0 ≤ i) = l.any p) ∧ Below w.heap.size w w' := by
  have HL := Lib.hid hl
  have HP := Lib.hid hp
  obtain ⟨n, hnn⟩ : ∃ n, n = l.length := ⟨_, rfl⟩
  rw [← hnn] at hn ⊢
  have HN := Lib.hid hnn
  clear hl hp hnn
  go_enter Tryz.func195, Tryz.ntmps195
  go_wp2_with fail
  go_loopw [8] (fun i wr => ∃ k : Nat, k ≤ n ∧ i = .int .i64 (k : Int) ∧ Hid (∀ j (hj : j < l.length), j < k → p l[j] = false) ∧ Below w.heap.size w wr) (fun i _ => n - (intOf i).toNat)
  case atStart => exact ⟨0, by omega, rfl, Lib.hid (by intro j hj h; omega), Below.refl _ _⟩
  case round =>
    obtain ⟨k, hk, rfl, hS, hB⟩ := hrel
    rename World => wr
    by_cases hlt : k < n
    · have hkl : k < l.length := by have := HN.out; omega
      obtain ⟨b, o, rfl, hb, c0, c1, c2, c3, c4, c5, c6⟩ := (HL.out.below hB).at_ hkl
      have CP := Lib.hid (HP.out _ (List.getElem_mem hkl) wr hB)
      have HT := Lib.hid (fun (h : p l[k] = true) => show l.any p = true from List.any_eq_true.2 ⟨_, List.getElem_mem hkl, h⟩)
      have HF := Lib.hid (fun (h : p l[k] = false) => show ∀ j (hj : j < l.length), j < k + 1 → p l[j] = false from fun j hj hjk => by
        by_cases e : j = k
        · subst e; exact h
        · exact hS.out j hj (by omega))
      have i0 : (0 : Int) ≤ (k : Int) := by omega
      have i1 : (k : Int) < (n : Int) := by omega
      generalize l[k] = d at *
      generalize p d = r at *
      unfold RV.val at CP
      clear hS
      go_wp2_with fail
      go_at_fn g
      refine CP.out.mono ?_
      rintro e w2 ⟨rfl, h⟩
      have hB2 := hB.trans (h.mono hB.size)
      cases r
      · go_wp2_with fail
        go_roundw
        case rel => exact ⟨k + 1, by omega, by go_num, Lib.hid (HF.out (by trivial)), hB2⟩
        case measure => simp [intOf]; omega
      · have HA := Lib.hid (show l.any p = true from HT.out (by trivial))
        go_wp2_with fail
        go_ret
        exact ⟨(k : Int), rfl, by rw [HA.out]; simp, hB2⟩
    · have i1 : ¬ (k : Int) < (n : Int) := by omega
      have HA : l.any p = false := List.any_eq_false.2 fun d hd => by obtain ⟨j, hj, rfl⟩ := List.getElem_of_mem hd; rw [hS.out j hj (by have := HN.out; omega)]; decide
      go_wp2_with fail
      go_ret
      exact ⟨-1, rfl, by decide, hB⟩
set_option maxRecDepth 100000 in
set_option maxHeartbeats 16000000 in
theorem hasrowh_any (g : FuncId) (eg : ∀ args w, (callFunc g args).run Tryz.prog w = .ok (.enter g args) w) (cp : Value) (p : RV → Bool) (l : List RV) (A : Option Addr) (c : Nat) (w : World) (hl : RRow w.heap.size w A c l) (hn : l.length ≤ 1000000) (hp : PredH w g #[cp] p l) :
    Calls Tryz.prog 165 #[.slice A l.length c, .func (.func g) #[cp] #[]] w fun e w' => e = .returned (.bool (l.any p)) ∧ Below w.heap.size w w' := by
  have ID := Lib.hid (idxrowh_any g eg cp p l A c w hl hn hp)
  clear hl hp
  generalize l.any p = r at *
  generalize l.length = n at *
  go_enter Tryz.func165, Tryz.ntmps165
  go_wp2_with fail
  go_at_call 195
  refine ID.out.mono ?_
  rintro e w2 ⟨i, rfl, hi, h⟩
  have HI := Lib.hid hi
  clear hi
  go_wp2
  go_ret
  exact ⟨ret_bool HI.out, h⟩

section
variable {T X N : Nat} {L : List Pk}
set_option maxRecDepth 100000 in
set_option maxHeartbeats 16000000 in
theorem tor_any (R : RV) (hn : R.args.length ≤ 1000000) (hR : ∀ a ∈ R.args, IsOk T X N L a) (rb : Nat) (f : Nat → Bool) (W : World) (hA : AskT T X N rb L f W) (hT : RTree W.heap.size W R) :
    Calls Tryz.prog 138 #[askW T rb N, R.val] W fun e w' => e = .returned (.bool (R.args.any fun a => Tr.sat N (pvL L) a.tree f)) ∧ Below W.heap.size W w' := by
  have b1 := (Below.refl W.heap.size W).alloc (Nat.le_refl _) (.cells #[.pointer (some ⟨T, 0, none⟩), .slice (some ⟨rb, 0, none⟩) N N] 145)
  have b2 := b1.alloc (by simp) (.cells #[.int .u8 R.kind, .string (bs R.dep.name), .int .u8 R.dep.op, .int .i64 R.dep.evr.epoch, .string (bs R.dep.evr.ver), .string (bs R.dep.evr.rel), .slice R.addr R.args.length R.cap] 39)
  have HC := Lib.hid (hasrowh_any 95 (fun _ _ => rfl) (askW T rb N) (fun a => Tr.sat N (pvL L) a.tree f) R.args R.addr R.cap _ (RRow.more (RRow.below ⟨hT.row, hT.sub⟩ b2) b2.size) hn
    (fun d hd W' hB => hR d hd rb f W' (hA.then (b2.trans (hB.mono b2.size))) (((hT.sub d hd).keeps (b2.trans (hB.mono b2.size))).more (b2.trans (hB.mono b2.size)).size)))
  unfold askW at *
  unfold RV.val
  have B2 := Lib.hid b2
  clear hA hT hR b1 b2 hn
  generalize (R.args.any fun a => Tr.sat N (pvL L) a.tree f) = r at *
  generalize R.args.length = n at *
  go_enter Tryz.func138, Tryz.ntmps138
  go_wp2_with fail
  go_at_call 165
  refine HC.out.mono ?_
  rintro e w2 ⟨rfl, h⟩
  have hB := B2.out.trans (h.mono B2.out.size)
  clear h
  go_wp2_with fail
  go_ret
  exact ⟨rfl, hB⟩
set_option maxRecDepth 100000 in
set_option maxHeartbeats 16000000 in
theorem one_any (g : FuncId) (eg : ∀ args w, (callFunc g args).run Tryz.prog w = .ok (.enter g args) w) (cp : Array Value) (p : Nat → Bool) (rb : Nat) (f : Nat → Bool) (W : World) (hA : AskT T X N rb L f W)
    (hp : ∀ n, n < N → ∀ (rb' : Nat) (W' : World), Below W.heap.size W W' → AskT T X N rb' L (Tr.one n) W' → Calls Tryz.prog g (#[askW T rb' N] ++ cp) W' fun e w' => e = .returned (.bool (p n)) ∧ Below W'.heap.size W' w') :
    Calls Tryz.prog 185 #[askW T rb N, .func (.func g) #[] cp] W fun e w' => e = .returned (.bool (Tr.anyN N fun n => f n && p n)) ∧ Below W.heap.size W w' := by
  have b1 := (Below.refl W.heap.size W).alloc (Nat.le_refl _) (.cells #[.pointer (some ⟨T, 0, none⟩), .slice (some ⟨rb, 0, none⟩) N N] 145)
  have AX := Lib.hid (ABox.new T rb N W 145)
  have HA := Lib.hid (fun W' (hb : Below W.heap.size W W') => hA.then hb)
  have HP := Lib.hid hp
  have ST := Lib.hid (fun (k : Nat) (W' : World) (b : Nat) (hb : Below W.heap.size W W') (hr : Rd encI 1 W'.heap.size (some ⟨b, 0, none⟩) 1 [(k : Int)] W') => state_any (hA.then hb).tr (some ⟨b, 0, none⟩) 1 [(k : Int)] hr)
  have hN := hA.tr.hN
  have B1 := Lib.hid b1
  unfold askW at *
  clear hA hp b1
  go_enter Tryz.func185, Tryz.ntmps185
  obtain ⟨_, a0, a1⟩ := AX.out
  go_wp2_with fail
  clear a0 a1
  go_loopw [10] (fun iv wr => ∃ k : Nat, k ≤ N ∧ iv = .int .i64 (k : Int) ∧ Hid (∀ j, j < k → (f j && p j) = false) ∧ Below W.heap.size W wr ∧ ABox W.heap.size T rb N wr) (fun iv _ => N - (intOf iv).toNat)
  case atStart => exact ⟨0, Nat.zero_le _, rfl, Lib.hid (fun j hj => absurd hj (Nat.not_lt_zero _)), B1.out, AX.out⟩
  case round =>
    obtain ⟨k, hk, rfl, hS, hB, hX⟩ := hrel
    rename World => wr
    have HS := Lib.hid hS.out
    have HB := Lib.hid hB
    have HX := Lib.hid hX
    clear hS hB hX AX B1
    by_cases hlt : k < N
    · have r0 := ((HA.out wr HB.out).row k hlt).1
      have CP := Lib.hid (HP.out k hlt)
      have HF := Lib.hid (fun (h : (f k && p k) = false) => show ∀ j, j < k + 1 → (f j && p j) = false from fun j hj => by
        by_cases e : j = k
        · subst e; exact h
        · exact HS.out j (by omega))
      have HT := Lib.hid (fun (h : (f k && p k) = true) => show Tr.anyN N (fun n => f n && p n) = true from Tr.anyN_iff.2 ⟨k, hlt, h⟩)
      have i0 : (0 : Int) ≤ (k : Int) := by omega
      have i1 : (k : Int) < (N : Int) := by omega
      generalize f k = fk at *
      generalize p k = pk at *
      cases fk
      · have HF2 := Lib.hid (HF.out rfl)
        clear HF HT CP
        go_wp2_with fail
        go_roundw
        case rel => exact ⟨k + 1, by omega, by go_num, HF2, HB.out, HX.out⟩
        case measure => simp [intOf]; omega
      · obtain ⟨_, a0, a1⟩ := HX.out
        have BA := (Below.refl wr.heap.size wr).alloc (Nat.le_refl _) (.cells #[.int .i64 (k : Int)] 3)
        have SA := Lib.hid (ST.out k _ wr.heap.size (HB.out.trans (BA.mono HB.out.size)) (rd_int (by simp) ((World.cell?_alloc_at _ _ _ _ rfl).trans rfl)))
        rw [Tr.inS_one, show [(k : Int)].length = 1 from rfl] at SA
        have BR := Lib.hid (HB.out.trans (BA.mono HB.out.size))
        have XR := Lib.hid (HX.out.then BA)
        clear BA HX HB
        go_wp2_with fail
        go_at_call 94
        refine SA.out.mono ?_
        rintro en w2 ⟨rb2, rfl, hask, _, h⟩
        have B2 := Lib.hid (BR.out.trans (h.mono BR.out.size))
        have X2 := Lib.hid (XR.out.then h)
        have CC := Lib.hid (CP.out rb2 w2 B2.out hask)
        clear hask h SA BR XR CP a0 a1 r0
        go_wp2_with fail
        go_at_fn g
        refine CC.out.mono ?_
        rintro en w3 ⟨rfl, h⟩
        have B3 := Lib.hid (B2.out.trans (h.mono B2.out.size))
        have X3 := Lib.hid (X2.out.then h)
        clear h CC B2 X2
        cases pk
        · have HF2 := Lib.hid (HF.out rfl)
          go_wp2_with fail
          go_roundw
          case rel => exact ⟨k + 1, by omega, by go_num, HF2, B3.out, X3.out⟩
          case measure => simp [intOf]; omega
        · have HT2 := Lib.hid (HT.out rfl)
          go_wp2_with fail
          go_ret
          exact ⟨by rw [HT2.out]; rfl, B3.out⟩
    · obtain rfl : k = N := by omega
      have i1 : ¬ (k : Int) < (k : Int) := by omega
      have HE := Lib.hid (show Tr.anyN k (fun n => f n && p n) = false from by
        rw [Bool.eq_false_iff]
        intro h
        obtain ⟨j, hj, e⟩ := Tr.anyN_iff.1 h
        rw [HS.out j hj] at e
        cases e)
      go_wp2_with fail
      go_ret
      exact ⟨by rw [HE.out]; rfl, HB.out⟩
end
end
section
/- Walks: With, Without and an Atom, and whether a state satisfies it (truth.asked: with, without, atom, is). -/


open Go.RowKit Go.Shelf
set_option linter.unusedVariables false

section
variable {T X N : Nat} {L : List Pk}
def RBx (b : Nat) (R : RV) (W : World) : Prop := b < W.heap.size ∧ W.cell? ⟨b, 0, none⟩ = some (.int .u8 R.kind) ∧ W.cell? ⟨b, 1, none⟩ = some (.string (bs R.dep.name)) ∧ W.cell? ⟨b, 2, none⟩ = some (.int .u8 R.dep.op) ∧ W.cell? ⟨b, 3, none⟩ = some (.int .i64 R.dep.evr.epoch) ∧ W.cell? ⟨b, 4, none⟩ = some (.string (bs R.dep.evr.ver)) ∧ W.cell? ⟨b, 5, none⟩ = some (.string (bs R.dep.evr.rel)) ∧ W.cell? ⟨b, 6, none⟩ = some (.slice R.addr R.args.length R.cap)
theorem RBx.then {b : Nat} {R : RV} {W W' : World} (h : RBx b R W) (hb : Below W.heap.size W W') : RBx b R W' := by
  obtain ⟨hl, c0, c1, c2, c3, c4, c5, c6⟩ := h
  exact ⟨Nat.lt_of_lt_of_le hl hb.size, (hb.cell (p := ⟨b, 0, none⟩) hl).trans c0, (hb.cell (p := ⟨b, 1, none⟩) hl).trans c1, (hb.cell (p := ⟨b, 2, none⟩) hl).trans c2, (hb.cell (p := ⟨b, 3, none⟩) hl).trans c3, (hb.cell (p := ⟨b, 4, none⟩) hl).trans c4, (hb.cell (p := ⟨b, 5, none⟩) hl).trans c5, (hb.cell (p := ⟨b, 6, none⟩) hl).trans c6⟩
theorem RBx.new (R : RV) (W : World) : RBx W.heap.size R (W.alloc (.cells #[.int .u8 R.kind, .string (bs R.dep.name), .int .u8 R.dep.op, .int .i64 R.dep.evr.epoch, .string (bs R.dep.evr.ver), .string (bs R.dep.evr.rel), .slice R.addr R.args.length R.cap] 39)) := ⟨by simp, by simp [go_sem], by simp [go_sem], by simp [go_sem], by simp [go_sem], by simp [go_sem], by simp [go_sem], by simp [go_sem]⟩
set_option maxRecDepth 100000 in
set_option maxHeartbeats 16000000 in
theorem with1_any (R : RV) (hn : R.args.length ≤ 1000000) (hR : ∀ a ∈ R.args, IsOk T X N L a) (b rb : Nat) (f : Nat → Bool) (W : World) (hA : AskT T X N rb L f W) (hT : RTree W.heap.size W R) (hb : RBx b R W) :
    Calls Tryz.prog 186 #[askW T rb N, .pointer (some ⟨b, 0, none⟩)] W fun e w' => e = .returned (.bool (R.args.all fun a => Tr.sat N (pvL L) a.tree f)) ∧ Below W.heap.size W w' := by
  have b1 := (Below.refl W.heap.size W).alloc (Nat.le_refl _) (.cells #[.pointer (some ⟨T, 0, none⟩), .slice (some ⟨rb, 0, none⟩) N N] 145)
  have AN := Lib.hid (and_any R hn hR rb f _ (hA.then b1) ((hT.keeps b1).more b1.size))
  obtain ⟨_, a0, a1⟩ := ABox.new T rb N W 145
  obtain ⟨_, c0, c1, c2, c3, c4, c5, c6⟩ := hb.then b1
  unfold askW at *
  unfold RV.val at AN
  have B1 := Lib.hid b1
  clear hA hT hR hb b1 hn
  generalize (R.args.all fun a => Tr.sat N (pvL L) a.tree f) = r at *
  go_enter Tryz.func186, Tryz.ntmps186
  go_wp2_with fail
  go_at_call 137
  refine AN.out.mono ?_
  rintro e w2 ⟨rfl, h⟩
  have hB := B1.out.trans (h.mono (by simp))
  clear h
  go_wp2_with fail
  go_ret
  exact ⟨rfl, hB⟩
set_option maxRecDepth 100000 in
set_option maxHeartbeats 16000000 in
theorem with_any (R : RV) (hn : R.args.length ≤ 1000000) (hR : ∀ a ∈ R.args, IsOk T X N L a) (rb : Nat) (f : Nat → Bool) (W : World) (hA : AskT T X N rb L f W) (hT : RTree W.heap.size W R) :
    Calls Tryz.prog 141 #[askW T rb N, R.val] W fun e w' => e = .returned (.bool (Tr.anyN N fun n => f n && R.args.all fun a => Tr.sat N (pvL L) a.tree (Tr.one n))) ∧ Below W.heap.size W w' := by
  have b1 := (Below.refl W.heap.size W).alloc (Nat.le_refl _) (.cells #[.pointer (some ⟨T, 0, none⟩), .slice (some ⟨rb, 0, none⟩) N N] 145)
  have b2 := b1.alloc (by simp) (.cells #[.int .u8 R.kind, .string (bs R.dep.name), .int .u8 R.dep.op, .int .i64 R.dep.evr.epoch, .string (bs R.dep.evr.ver), .string (bs R.dep.evr.rel), .slice R.addr R.args.length R.cap] 39)
  have bb := (Below.refl _ (W.alloc (.cells #[.pointer (some ⟨T, 0, none⟩), .slice (some ⟨rb, 0, none⟩) N N] 145))).alloc (Nat.le_refl _) (.cells #[.int .u8 R.kind, .string (bs R.dep.name), .int .u8 R.dep.op, .int .i64 R.dep.evr.epoch, .string (bs R.dep.evr.ver), .string (bs R.dep.evr.rel), .slice R.addr R.args.length R.cap] 39)
  have RB := RBx.new R (W.alloc (.cells #[.pointer (some ⟨T, 0, none⟩), .slice (some ⟨rb, 0, none⟩) N N] 145))
  rw [World.size_alloc] at RB
  obtain ⟨_, a0, a1⟩ := (ABox.new T rb N W 145).then bb
  have ON := Lib.hid (one_any (T := T) (X := X) (L := L) 186 (fun _ _ => rfl) #[.pointer (some ⟨W.heap.size + 1, 0, none⟩)] (fun n => R.args.all fun a => Tr.sat N (pvL L) a.tree (Tr.one n)) rb f _ (hA.then b2) (fun n _ rb' W' hB hA' =>
    with1_any R hn hR (W.heap.size + 1) rb' (Tr.one n) W' hA' ((hT.keeps (b2.trans (hB.mono b2.size))).more (b2.trans (hB.mono b2.size)).size) (RB.then hB)))
  unfold askW at *
  unfold RV.val
  have B2 := Lib.hid b2
  clear hA hT hR b1 b2 bb RB hn
  generalize (Tr.anyN N fun n => f n && R.args.all fun a => Tr.sat N (pvL L) a.tree (Tr.one n)) = r at *
  go_enter Tryz.func141, Tryz.ntmps141
  go_wp2_with fail
  go_at_call 185
  refine ON.out.mono ?_
  rintro e w2 ⟨rfl, h⟩
  have hB := B2.out.trans (h.mono B2.out.size)
  clear h
  go_wp2_with fail
  go_ret
  exact ⟨rfl, hB⟩
end
end
end Go.Proofs.YteobmfpbgnmffaaGreatDoor
