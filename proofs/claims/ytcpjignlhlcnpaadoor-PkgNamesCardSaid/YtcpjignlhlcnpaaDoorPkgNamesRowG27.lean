/- ShMay -/
import Derived.Test.YtcpjignlhlcnpaaDoorPkgNamesRowG26
import Derived.Test.YtcpjignlhlcnpaaDoorPkgNamesRowG14
import Derived.Laws.EntriesVeiled
set_option linter.unusedSimpArgs false
set_option linter.unusedVariables false
/- Walk: whether a rich dependency may be at a place (shape.May). -/



namespace Go.Proofs.YtcpjignlhlcnpaaDoor
open Go.RowKit Go.Shelf
set_option linter.unusedVariables false
attribute [local go_sem] Oper.semAt_some
attribute [local go_sem ↓ high] asked_wide

def okP (wh k : Int) (n : Nat) (d : Dp) (al : Bool) : Bool :=
  decide (wh ≤ (askOf k).wh) && (!(al && !(askOf k).alone) && (decide ((askOf k).least ≤ (n : Int)) && (decide ((n : Int) ≤ (askOf k).most) && (!(k == 1 && !dmayB d) && !(k != 1 && !isZeroT d)))))
def okX (wh : Int) (x : RV × Bool) : Bool := okP wh x.1.kind x.1.args.length x.1.dep x.2
def mayE (wh : Int) (T : RV) : Int := if wh < 1 ∨ 3 < wh then 1 else if 24 < T.tree.parts then 40 else if 8 < T.tree.deep then 21 else if (pl false T).all (okX wh) = true then 0 else 4
/-- what lies between May's steps: its boxes -/
structure MayAt (w : World) (T : RV) (wh n : Int) (W : World) : Prop where
  old : Below w.heap.size w W
  box : Box7 w.heap.size (.int .u8 T.kind) (.string (bs T.dep.name)) (.int .u8 T.dep.op) (.int .i64 T.dep.evr.epoch) (.string (bs T.dep.evr.ver)) (.string (bs T.dep.evr.rel)) (.slice T.addr T.args.length T.cap) W
  wx : Boxed W (w.heap.size + 1) 5 (.int .u8 wh)
  res : Boxed W (w.heap.size + 2) 50 (.int .i64 n)
theorem MayAt.then {w W W' : World} {T : RV} {wh n : Int} (h : MayAt w T wh n W) (hb : Below W.heap.size W W') : MayAt w T wh n W' :=
  ⟨h.old.trans (hb.mono h.old.size), h.box.past (hb.mono h.box.2.2), boxed_then h.wx hb, boxed_then h.res hb⟩
theorem MayAt.set {w W : World} {T : RV} {wh n : Int} (h : MayAt w T wh n W) (m : Int) : MayAt w T wh m (W.setCell ⟨w.heap.size + 2, 0, none⟩ (.int .i64 m)) where
  old := h.old.setCell (p := ⟨w.heap.size + 2, 0, none⟩) (by show w.heap.size ≤ w.heap.size + 2; omega) _
  box := h.box.past ((Below.refl _ _).setCell (p := ⟨w.heap.size + 2, 0, none⟩) (by show w.heap.size + 1 ≤ w.heap.size + 2; omega) _)
  wx := (Below.heap_setCell _ _ _ _ (by show w.heap.size + 1 ≠ w.heap.size + 2; omega)).trans h.wx
  res := h.res.set _
theorem MayAt.new (w : World) (T : RV) (wh : Int) : MayAt w T wh 0 (((w.alloc (.cells #[.int .u8 T.kind, .string (bs T.dep.name), .int .u8 T.dep.op, .int .i64 T.dep.evr.epoch, .string (bs T.dep.evr.ver), .string (bs T.dep.evr.rel), .slice T.addr T.args.length T.cap] 28)).alloc (.cells #[.int .u8 wh] 5)).alloc (.cells #[.int .i64 0] 50)) := by
  have z1 : (w.alloc (.cells #[.int .u8 T.kind, .string (bs T.dep.name), .int .u8 T.dep.op, .int .i64 T.dep.evr.epoch, .string (bs T.dep.evr.ver), .string (bs T.dep.evr.rel), .slice T.addr T.args.length T.cap] 28)).heap.size = w.heap.size + 1 := by simp
  have z2 : ((w.alloc (.cells #[.int .u8 T.kind, .string (bs T.dep.name), .int .u8 T.dep.op, .int .i64 T.dep.evr.epoch, .string (bs T.dep.evr.ver), .string (bs T.dep.evr.rel), .slice T.addr T.args.length T.cap] 28)).alloc (.cells #[.int .u8 wh] 5)).heap.size = w.heap.size + 2 := by simp
  refine ⟨(((Below.refl _ _).alloc (Nat.le_refl _) _).alloc (by rw [z1]; omega) _).alloc (by rw [z2]; omega) _, ?_, ?_, ?_⟩
  · exact ((Box7.new w _ _ _ _ _ _ _ _).past ((Below.refl _ _).alloc (by rw [z1]; exact Nat.le_refl _) _)).past ((Below.refl _ _).alloc (by rw [z2]; omega) _)
  · have h := Boxed.new (w.alloc (.cells #[.int .u8 T.kind, .string (bs T.dep.name), .int .u8 T.dep.op, .int .i64 T.dep.evr.epoch, .string (bs T.dep.evr.ver), .string (bs T.dep.evr.rel), .slice T.addr T.args.length T.cap] 28)) 5 (.int .u8 wh)
    rw [z1] at h
    exact h.alloc _
  · have h := Boxed.new ((w.alloc (.cells #[.int .u8 T.kind, .string (bs T.dep.name), .int .u8 T.dep.op, .int .i64 T.dep.evr.epoch, .string (bs T.dep.evr.ver), .string (bs T.dep.evr.rel), .slice T.addr T.args.length T.cap] 28)).alloc (.cells #[.int .u8 wh] 5)) 50 (.int .i64 0)
    rw [z2] at h
    exact h
theorem MayAt.past {w W W' : World} {T : RV} {wh n : Int} (h : MayAt w T wh n W) (hb : Below (w.heap.size + 3) W W') : MayAt w T wh n W' :=
  ⟨h.old.trans (hb.mono (by omega)), h.box.past (hb.mono (by omega)), (hb.block (w.heap.size + 1) (by omega)).trans h.wx, (hb.block (w.heap.size + 2) (by omega)).trans h.res⟩
theorem MayAt.own {w : World} {T : RV} {wh n : Int} {B : Nat} (hB : w.heap.size + 3 ≤ B) (Q : List PtX → Prop) : OwnFrom B (fun (s : List PtX) W => Q s ∧ MayAt w T wh n W) := by
  intro s A C row hs hg hr
  have hl := hs.2.res.lt
  exact ⟨hs.1, hs.2.past ((Below.refl _ A).grown hg (by omega) (fun k e => Nat.le_trans hB (hr k e).1))⟩
def MyI (w : World) (T : RV) (wh : Int) (pre : List PtX) (W : World) : Prop := (∀ x ∈ pre, okX wh x.1 = true) ∧ MayAt w T wh 0 W
def MyX (w : World) (T : RV) (wh : Int) (c : Code) (pre : List PtX) (W : World) : Prop := (c = .ret ∧ ∃ x ∈ pre, okX wh x.1 = false) ∧ MayAt w T wh 4 W
/-- the loop's own part in its box -/
def XBox (x : RV) (b : Nat) (W : World) : Prop := W.heap[b]? = some (.cells #[.int .u8 x.kind, .string (bs x.dep.name), .int .u8 x.dep.op, .int .i64 x.dep.evr.epoch, .string (bs x.dep.evr.ver), .string (bs x.dep.evr.rel), .slice x.addr x.args.length x.cap] 28 (0, 0))
theorem XBox.then {x : RV} {b : Nat} {W W' : World} (h : XBox x b W) (hb : Below W.heap.size W W') : XBox x b W' := (hb.block b (Array.getElem?_eq_some_iff.1 h).1).trans h
theorem XBox.cells {x : RV} {b : Nat} {W : World} (h : XBox x b W) : W.cell? ⟨b, 0, none⟩ = some (.int .u8 x.kind) ∧ W.cell? ⟨b, 1, none⟩ = some (.string (bs x.dep.name)) ∧ W.cell? ⟨b, 2, none⟩ = some (.int .u8 x.dep.op) ∧ W.cell? ⟨b, 3, none⟩ = some (.int .i64 x.dep.evr.epoch) ∧ W.cell? ⟨b, 4, none⟩ = some (.string (bs x.dep.evr.ver)) ∧ W.cell? ⟨b, 5, none⟩ = some (.string (bs x.dep.evr.rel)) ∧ W.cell? ⟨b, 6, none⟩ = some (.slice x.addr x.args.length x.cap) := by
  unfold XBox at h
  refine ⟨?_, ?_, ?_, ?_, ?_, ?_, ?_⟩ <;> simp [World.cell?, h]
theorem xbox_own (B : Nat) (x : RV) (P : Nat → Prop) (a' : Act) (f : Nat → Act) : OwnFrom B (fun (_ : Unit) W => ∃ b, P b ∧ a' = f b ∧ XBox x b W) := by
  rintro _ X Y row ⟨b, hp, e, hb⟩ hg hrow
  refine ⟨b, hp, e, (hg.block b (Array.getElem?_eq_some_iff.1 hb).1 (fun e2 => ?_)).trans hb⟩
  obtain ⟨_, o, ho, hc⟩ := hrow b e2.symm
  rw [show X.heap[b]? = _ from hb] at ho
  cases ho
  cases hc
set_option maxRecDepth 100000 in
set_option maxHeartbeats 16000000 in
theorem shmay_in (T : RV) (wh : Int) (w : World) (hwh : 0 ≤ wh ∧ wh ≤ 255) (hI0 : PkIn w) (hKO : KO T) (hp : T.tree.parts ≤ 1000000) (hT : RTree w.heap.size w T) : CallsIn Fence.wide 8 Tryd.prog 20 #[T.val, .int .u8 wh] w fun e w' => e = .returned (.int .i64 (mayE wh T)) ∧ Below w.heap.size w w' := by
  have hI := Lib.hid hI0
  have HT := Lib.hid hT
  have HKO := Lib.hid hKO
  have HP := Lib.hid hp
  have M0 := Lib.hid (MayAt.new w T wh)
  have CC := Lib.hid (fun W (hb : Below w.heap.size w W) => shcount_any T W HKO.out HP.out ((HT.out.keeps hb).more hb.size))
  have CD := Lib.hid (fun W (hb : Below w.heap.size w W) => shdepth_any T.ht T W (Nat.le_refl _) HP.out ((HT.out.keeps hb).more hb.size))
  have CP := Lib.hid (fun W => shparts_any T W)
  unfold RV.val at CC CD CP
  clear hI0 hT hKO hp
  by_cases hw : wh < 1 ∨ 3 < wh
  · have hE : mayE wh T = 1 := by unfold mayE; rw [if_pos hw]
    have HE := Lib.hid hE
    clear hE
    unfold RV.val
    rcases hw with hw | hw
    · refine callsIn_of_wp_marks Tryd.func20 rfl trivial ?_ rfl
      simp only [Tryd.ntmps20, List.size_toArray, List.length_cons, List.length_nil, Nat.reduceAdd, Nat.reduceSub, Array.replicate_succ, Array.replicate_zero, List.push_toArray, List.append_toArray, List.nil_append, List.cons_append]
      gi_wp2_with fail
      exact ⟨.int .i64 1, by simp [results, Tryd.results20, go_sem], by rw [HE.out], (((Below.refl _ _).alloc (Nat.le_refl _) _).alloc (by simp) _).alloc (by simp; omega) _⟩

    · refine callsIn_of_wp_marks Tryd.func20 rfl trivial ?_ rfl
      simp only [Tryd.ntmps20, List.size_toArray, List.length_cons, List.length_nil, Nat.reduceAdd, Nat.reduceSub, Array.replicate_succ, Array.replicate_zero, List.push_toArray, List.append_toArray, List.nil_append, List.cons_append]
      gi_wp2_with fail
      exact ⟨.int .i64 1, by simp [results, Tryd.results20, go_sem], by rw [HE.out], (((Below.refl _ _).alloc (Nat.le_refl _) _).alloc (by simp) _).alloc (by simp; omega) _⟩

  · have hw1 : ¬ wh < 1 := by omega
    have hw2 : ¬ 3 < wh := by omega
    unfold RV.val
    by_cases hc : 24 < T.tree.parts
    · have HE := Lib.hid (show mayE wh T = 40 by unfold mayE; rw [if_neg hw, if_pos hc])
      have hc2 : (24 : Int) < (T.tree.parts : Int) := by omega
      clear hw hc
      refine callsIn_of_wp_marks Tryd.func20 rfl trivial ?_ rfl
      simp only [Tryd.ntmps20, List.size_toArray, List.length_cons, List.length_nil, Nat.reduceAdd, Nat.reduceSub, Array.replicate_succ, Array.replicate_zero, List.push_toArray, List.append_toArray, List.nil_append, List.cons_append]
      gi_wp2_with fail
      refine ⟨trivial, ?_⟩
      gi_at_call 39
      refine (callsIn_wide.2 (CC.out _ M0.out.old)).mono ?_
      rintro e w4 ⟨rfl, hb⟩
      have M4 := Lib.hid (M0.out.then hb)
      obtain ⟨⟨c0, c1, c2, c3, c4, c5, c6⟩, _, cl⟩ := M4.out.box
      have rc := M4.out.res.cell
      have rf := M4.out.res.frozen
      clear hb M0
      generalize T.tree.parts = np at *
      gi_wp2_with fail
      have MR := M4.out.set 40
      exact ⟨.int .i64 40, by simp [results, Tryd.results20, go_sem, MR.res.cell], by rw [HE.out], MR.old⟩

    · by_cases hd : 8 < T.tree.deep
      · have HE := Lib.hid (show mayE wh T = 21 by unfold mayE; rw [if_neg hw, if_neg hc, if_pos hd])
        have hc2 : ¬ (24 : Int) < (T.tree.parts : Int) := by omega
        have hd2 : (8 : Int) < (T.tree.deep : Int) := by omega
        clear hw hc hd
        refine callsIn_of_wp_marks Tryd.func20 rfl trivial ?_ rfl
        simp only [Tryd.ntmps20, List.size_toArray, List.length_cons, List.length_nil, Nat.reduceAdd, Nat.reduceSub, Array.replicate_succ, Array.replicate_zero, List.push_toArray, List.append_toArray, List.nil_append, List.cons_append]
        gi_wp2_with fail
        refine ⟨trivial, ?_⟩
        gi_at_call 39
        refine (callsIn_wide.2 (CC.out _ M0.out.old)).mono ?_
        rintro e w4 ⟨rfl, hb⟩
        have M4 := Lib.hid (M0.out.then hb)
        obtain ⟨⟨c0, c1, c2, c3, c4, c5, c6⟩, _, cl⟩ := M4.out.box
        have rc := M4.out.res.cell
        have rf := M4.out.res.frozen
        clear hb M0
        generalize T.tree.parts = np at *
        gi_wp2_with fail
        refine ⟨trivial, ?_⟩
        gi_at_call 40
        refine (callsIn_wide.2 (CD.out _ M4.out.old)).mono ?_
        rintro e w5 ⟨rfl, hb⟩
        have M5 := Lib.hid (M4.out.then hb)
        clear c0 c1 c2 c3 c4 c5 c6 cl rc rf
        obtain ⟨⟨c0, c1, c2, c3, c4, c5, c6⟩, _, cl⟩ := M5.out.box
        have rc := M5.out.res.cell
        have rf := M5.out.res.frozen
        clear hb M4
        generalize T.tree.deep = nd at *
        gi_wp2_with fail
        have MR := M5.out.set 21
        exact ⟨.int .i64 21, by simp [results, Tryd.results20, go_sem, MR.res.cell], by rw [HE.out], MR.old⟩

      · have HE := Lib.hid (show mayE wh T = if (pl false T).all (okX wh) = true then 0 else 4 by unfold mayE; rw [if_neg hw, if_neg hc, if_neg hd])
        have hc2 : ¬ (24 : Int) < (T.tree.parts : Int) := by omega
        have hd2 : ¬ (8 : Int) < (T.tree.deep : Int) := by omega
        clear hw hc hd
        refine callsIn_of_wp_marks Tryd.func20 rfl trivial ?_ rfl
        simp only [Tryd.ntmps20, List.size_toArray, List.length_cons, List.length_nil, Nat.reduceAdd, Nat.reduceSub, Array.replicate_succ, Array.replicate_zero, List.push_toArray, List.append_toArray, List.nil_append, List.cons_append]
        gi_wp2_with fail
        refine ⟨trivial, ?_⟩
        gi_at_call 39
        refine (callsIn_wide.2 (CC.out _ M0.out.old)).mono ?_
        rintro e w4 ⟨rfl, hb⟩
        have M4 := Lib.hid (M0.out.then hb)
        obtain ⟨⟨c0, c1, c2, c3, c4, c5, c6⟩, _, cl⟩ := M4.out.box
        have rc := M4.out.res.cell
        have rf := M4.out.res.frozen
        clear hb M0
        generalize T.tree.parts = np at *
        gi_wp2_with fail
        refine ⟨trivial, ?_⟩
        gi_at_call 40
        refine (callsIn_wide.2 (CD.out _ M4.out.old)).mono ?_
        rintro e w5 ⟨rfl, hb⟩
        have M5 := Lib.hid (M4.out.then hb)
        clear c0 c1 c2 c3 c4 c5 c6 cl rc rf
        obtain ⟨⟨c0, c1, c2, c3, c4, c5, c6⟩, _, cl⟩ := M5.out.box
        have rc := M5.out.res.cell
        have rf := M5.out.res.frozen
        clear hb M4
        generalize T.tree.deep = nd at *
        gi_wp2_with fail
        refine ⟨trivial, ?_⟩
        gi_at_call 41
        refine (callsIn_wide.2 (CP.out _)).mono ?_
        rintro e w6 ⟨rfl, hPA, hb, hz⟩
        have M6 := Lib.hid (M5.out.then hb)
        have H5 := Lib.hid M5.out.res.lt
        have HPA := Lib.hid hPA
        have HZ := Lib.hid hz
        clear hPA hb hz M5 c0 c1 c2 c3 c4 c5 c6 cl rc rf
        gi_wp2_with fail
        generalize decide (24 < (np : Int)) = p1
        generalize decide (8 < (nd : Int)) = p2
        generalize Value.agg #[.int .u8 T.kind, .string (bs T.dep.name), .int .u8 T.dep.op, .int .i64 T.dep.evr.epoch, .string (bs T.dep.evr.ver), .string (bs T.dep.evr.rel), .slice T.addr T.args.length T.cap] = vT
        have h6 := M6.out.res.lt
        refine wpIn_rangeFunc_ownH rfl (by decide) (gf := 55) (lb := #[.pointer (some ⟨w5.heap.size + 1, 0, none⟩), .pointer (some ⟨w5.heap.size, 0, none⟩)]) rfl trivial (enters_of Tryd.func55 (by kernel_rfl) rfl)
          (shparts_stops 7 (w.heap.size + 2) w5.heap.size (w5.heap.size + 1) T w6 (by have := H5.out; omega) (by have := H5.out; omega) HKO.out HPA.out (tree_ne HT.out M6.out.old (by omega)) h6) kc_t (fun W l o o' _ h hc _ => kc_b W l o o' h hc) (Below.refl _ _) (fun _ => rfl)
          (MyI w T wh) (MyX w T wh) (MayAt.own (by omega) _) (fun c => MayAt.own (by omega) _) ⟨(fun x hx => by cases hx), M6.out⟩
          (fun x a' W => ∃ b, w.heap.size + 3 ≤ b ∧ a' = { tmps := #[vT, .int .u8 wh, .pointer (some ⟨w.heap.size, 0, none⟩), .pointer (some ⟨w.heap.size + 1, 0, none⟩), .pointer (some ⟨w.heap.size + 1 + 1, 0, none⟩), .pointer (some ⟨b, 0, none⟩), .bool x.1.2, undef, .bool false, .int .u8 wh, .bool false, .bool false, .int .u8 wh, .bool false, .bool false, .bool p1, vT, .int .i64 (np : Int), .bool p1, .bool p2, vT, .int .i64 (nd : Int), .bool p2, vT, .func (.func 55) #[] #[.pointer (some ⟨w5.heap.size + 1, 0, none⟩), .pointer (some ⟨w5.heap.size, 0, none⟩)], x.1.1.val, .bool x.1.2, undef, undef, undef, undef, undef, undef, undef, undef, undef, undef, undef, undef, undef, undef, undef, undef, undef, undef, undef, undef, undef, undef, undef, undef, undef, undef, undef, undef, undef, undef, undef, undef, undef, undef, undef, undef, undef, undef, undef, undef, undef, undef, undef, undef, undef], defers := [] } ∧ XBox x.1.1 b W) (fun x a' => xbox_own _ _ _ a' _) ?assign ?body ?done ?stop
        case assign =>
          rintro l pre x W K ⟨h1, h2⟩ hK
          unfold pxArgs RV.val
          have hW := h2.res.lt
          gi_wp2
          refine hK _ _ ((KeepsOthers.alloc _ _).from _) (KC.alloc _ _) ⟨h1, h2.then ((Below.refl _ _).alloc (Nat.le_refl _) _)⟩ ⟨W.heap.size, by omega, ?_, World.alloc_heap_new _ _⟩
          rfl
        case body =>
          rintro l pre x a' W hl0 hl1 ⟨h1, h2⟩ ⟨b, hb3, rfl, hX⟩ hlt
          obtain ⟨y, hy⟩ : ∃ y, x.1.1 = y := ⟨_, rfl⟩
          obtain ⟨al, hal⟩ : ∃ al, x.1.2 = al := ⟨_, rfl⟩
          have hwf : y.dep.wf := hy ▸ x.2.1
          have hko : KO y := hy ▸ x.2.2
          have hxx : x.1 = (y, al) := by rw [← hy, ← hal]
          rw [hy] at hX ⊢
          rw [hal]
          obtain ⟨m, hm⟩ : ∃ m : Nat, y.kind = (m : Int) := ⟨y.kind.toNat, by have := hko.byte; omega⟩
          have hm2 : m ≤ 255 := by have := hko.byte; omega
          have H1 := Lib.hid h1
          have M := Lib.hid h2
          have XB := Lib.hid hX
          have OF := Lib.hid (shof_any m hm2 W)
          have HOKX := Lib.hid (show okX wh x.1 = okP wh (m : Int) y.args.length y.dep al by rw [hxx]; unfold okX; rw [hm])
          have hbl : b < W.heap.size := (Array.getElem?_eq_some_iff.1 hX).1
          obtain ⟨c0, c1, c2, c3, c4, c5, c6⟩ := hX.cells
          rw [hm] at c0
          have HD := Lib.hid (fun W' (hb : Below W.heap.size W W') => dmay_pk y.dep W' hwf (hI.out.below (h2.old.trans (hb.mono h2.old.size))))
          unfold Dp.val at HD
          unfold askV at OF
          clear h1 h2 hX hko hlt hxx hy hal
          gi_wp2_with fail
          refine ⟨trivial, ?_⟩
          gi_at_call 42
          refine (CallsIn.inRound l (callsIn_wide.2 OF.out)).mono ?_
          rintro e w7 ⟨rfl, hb7⟩
          have B8 := Lib.hid (hb7.alloc hb7.size (.cells #[.int .i64 (askOf m).least, .int .i64 (askOf m).most, .bool (askOf m).alone, .int .u8 (askOf m).wh] 71))
          have M8 := Lib.hid (M.out.then B8.out)
          have X8 := Lib.hid (XB.out.then B8.out)
          have DM := Lib.hid (HD.out _ B8.out)
          have HOKX := Lib.hid (show okX wh x.1 = (decide (wh ≤ (askOf m).wh) && (!(al && !(askOf m).alone) && (decide ((askOf m).least ≤ (y.args.length : Int)) && (decide ((y.args.length : Int) ≤ (askOf m).most) && (!((m : Int) == 1 && !dmayB y.dep) && !((m : Int) != 1 && !isZeroT y.dep)))))) by rw [HOKX.out]; rfl)
          generalize (askOf m).least = lA at *
          generalize (askOf m).most = mA at *
          generalize (askOf m).alone = aA at *
          generalize (askOf m).wh = wA at *
          obtain ⟨c0, c1, c2, c3, c4, c5, c6⟩ := X8.out.cells
          rw [hm] at c0
          have rc := M8.out.res.cell
          have rf := M8.out.res.frozen
          have wc := M8.out.wx.cell
          have q7 := B8.out.size
          have x0 : (w7.alloc (.cells #[.int .i64 lA, .int .i64 mA, .bool aA, .int .u8 wA] 71)).cell? ⟨w7.heap.size, 0, none⟩ = some (.int .i64 lA) := (World.cell?_alloc_at _ _ _ _ rfl).trans rfl
          have x1 : (w7.alloc (.cells #[.int .i64 lA, .int .i64 mA, .bool aA, .int .u8 wA] 71)).cell? ⟨w7.heap.size, 1, none⟩ = some (.int .i64 mA) := (World.cell?_alloc_at _ _ _ _ rfl).trans rfl
          have x2 : (w7.alloc (.cells #[.int .i64 lA, .int .i64 mA, .bool aA, .int .u8 wA] 71)).cell? ⟨w7.heap.size, 2, none⟩ = some (.bool aA) := (World.cell?_alloc_at _ _ _ _ rfl).trans rfl
          have x3 : (w7.alloc (.cells #[.int .i64 lA, .int .i64 mA, .bool aA, .int .u8 wA] 71)).cell? ⟨w7.heap.size, 3, none⟩ = some (.int .u8 wA) := (World.cell?_alloc_at _ _ _ _ rfl).trans rfl
          clear hb7 OF HD XB M
          by_cases q1 : wA < wh
          · have HB : (decide (wh ≤ wA) && (!(al && !aA) && (decide (lA ≤ (y.args.length : Int)) && (decide ((y.args.length : Int) ≤ mA) && (!((m : Int) == 1 && !dmayB y.dep) && !((m : Int) != 1 && !isZeroT y.dep)))))) = false := by rw [decide_eq_false (show ¬ wh ≤ wA by omega)]; rfl
            gi_wp2_with fail
            exact ⟨((KeepsOthers.of_grownBy (grown_below B8.out) (fun _ _ h => by cases h)).trans (KeepsOthers.setCell _ _ _)).from _, ⟨rfl, _, List.mem_append_right _ (List.mem_singleton.2 rfl), by rw [HOKX.out]; exact HB⟩, M8.out.set 4⟩
          cases al
          · by_cases q3 : (y.args.length : Int) < lA
            · have HB : (decide (wh ≤ wA) && (!(false && !aA) && (decide (lA ≤ (y.args.length : Int)) && (decide ((y.args.length : Int) ≤ mA) && (!((m : Int) == 1 && !dmayB y.dep) && !((m : Int) != 1 && !isZeroT y.dep)))))) = false := by rw [decide_eq_false (show ¬ lA ≤ (y.args.length : Int) by omega)]; simp
              gi_wp2_with fail
              exact ⟨((KeepsOthers.of_grownBy (grown_below B8.out) (fun _ _ h => by cases h)).trans (KeepsOthers.setCell _ _ _)).from _, ⟨rfl, _, List.mem_append_right _ (List.mem_singleton.2 rfl), by rw [HOKX.out]; exact HB⟩, M8.out.set 4⟩
            by_cases q4 : mA < (y.args.length : Int)
            · have HB : (decide (wh ≤ wA) && (!(false && !aA) && (decide (lA ≤ (y.args.length : Int)) && (decide ((y.args.length : Int) ≤ mA) && (!((m : Int) == 1 && !dmayB y.dep) && !((m : Int) != 1 && !isZeroT y.dep)))))) = false := by rw [decide_eq_false (show ¬ (y.args.length : Int) ≤ mA by omega)]; simp
              gi_wp2_with fail
              exact ⟨((KeepsOthers.of_grownBy (grown_below B8.out) (fun _ _ h => by cases h)).trans (KeepsOthers.setCell _ _ _)).from _, ⟨rfl, _, List.mem_append_right _ (List.mem_singleton.2 rfl), by rw [HOKX.out]; exact HB⟩, M8.out.set 4⟩
            by_cases k1 : m = 1
            · have kb : ((m : Int) == 1) = true := by simp only [beq_iff_eq]; omega
              have kb2 : ((m : Int) != 1) = false := by simp only [bne_eq_false_iff_eq]; omega
              cases hdm : dmayB y.dep
              · rw [hdm] at DM
                gi_wp2_with fail
                refine ⟨trivial, ?_⟩
                gi_at_call 15
                refine (CallsIn.inRound l (callsIn_wide.2 DM.out)).mono ?_
                rintro e w9 ⟨rfl, hb9⟩
                have hz8 := B8.out.size
                have B9 := Lib.hid (B8.out.trans (hb9.mono B8.out.size))
                have M9 := Lib.hid (M8.out.then hb9)
                have rc := M9.out.res.cell
                have rf := M9.out.res.frozen
                obtain ⟨d0, d1, d2, d3, d4, d5, d6⟩ := (X8.out.then hb9).cells
                rw [hm] at d0
                clear hb9 c0 c1 c2 c3 c4 c5 c6 DM
                have HB : (decide (wh ≤ wA) && (!(false && !aA) && (decide (lA ≤ (y.args.length : Int)) && (decide ((y.args.length : Int) ≤ mA) && (!((m : Int) == 1 && !dmayB y.dep) && !((m : Int) != 1 && !isZeroT y.dep)))))) = false := by rw [hdm, kb]; simp
                gi_wp2_with fail
                exact ⟨((KeepsOthers.of_grownBy (grown_below B9.out) (fun _ _ h => by cases h)).trans (KeepsOthers.setCell _ _ _)).from _, ⟨rfl, _, List.mem_append_right _ (List.mem_singleton.2 rfl), by rw [HOKX.out]; exact HB⟩, M9.out.set 4⟩
              · rw [hdm] at DM
                gi_wp2_with fail
                refine ⟨trivial, ?_⟩
                gi_at_call 15
                refine (CallsIn.inRound l (callsIn_wide.2 DM.out)).mono ?_
                rintro e w9 ⟨rfl, hb9⟩
                have hz8 := B8.out.size
                have B9 := Lib.hid (B8.out.trans (hb9.mono B8.out.size))
                have M9 := Lib.hid (M8.out.then hb9)
                have rc := M9.out.res.cell
                have rf := M9.out.res.frozen
                obtain ⟨d0, d1, d2, d3, d4, d5, d6⟩ := (X8.out.then hb9).cells
                rw [hm] at d0
                clear hb9 c0 c1 c2 c3 c4 c5 c6 DM
                have HB : (decide (wh ≤ wA) && (!(false && !aA) && (decide (lA ≤ (y.args.length : Int)) && (decide ((y.args.length : Int) ≤ mA) && (!((m : Int) == 1 && !dmayB y.dep) && !((m : Int) != 1 && !isZeroT y.dep)))))) = true := by simp only [Bool.and_eq_true, decide_eq_true_eq, Bool.not_eq_true']; exact ⟨by omega, by simp, by omega, by omega, by rw [hdm, kb]; rfl, by rw [kb2]; rfl⟩
                gi_wp2_with fail
                exact ⟨(KeepsOthers.of_grownBy (grown_below B9.out) (fun _ _ h => by cases h)).from _, KC.of B9.out, (fun z hz => by
                  rcases List.mem_append.1 hz with hz | hz
                  · exact H1.out z hz
                  · obtain rfl := List.mem_singleton.1 hz
                    rw [HOKX.out]; exact HB), M9.out⟩
            · have kb : ((m : Int) == 1) = false := by simp only [beq_eq_false_iff_ne]; omega
              have kb2 : ((m : Int) != 1) = true := by simp only [bne_iff_ne]; omega
              have hz : ((bs y.dep.name).toList.isEmpty && (y.dep.op == 0 && (y.dep.evr.epoch == 0 && ((bs y.dep.evr.ver).toList.isEmpty && (bs y.dep.evr.rel).toList.isEmpty)))) = isZeroT y.dep := by unfold isZeroT isZero; rw [bs_toList, bs_toList, bs_toList]
              cases hzz : isZeroT y.dep
              · rw [hzz] at hz
                have HZF := Lib.hid hz
                clear hz
                have HB : (decide (wh ≤ wA) && (!(false && !aA) && (decide (lA ≤ (y.args.length : Int)) && (decide ((y.args.length : Int) ≤ mA) && (!((m : Int) == 1 && !dmayB y.dep) && !((m : Int) != 1 && !isZeroT y.dep)))))) = false := by rw [hzz, kb, kb2]; simp
                gi_wp2_with fail
                refine ⟨trivial, ?_⟩
                gi_wp2_with fail
                all_goals
                  first
                    | exact ⟨((KeepsOthers.of_grownBy (grown_below B8.out) (fun _ _ h => by cases h)).trans (KeepsOthers.setCell _ _ _)).from _, ⟨rfl, _, List.mem_append_right _ (List.mem_singleton.2 rfl), by rw [HOKX.out]; exact HB⟩, M8.out.set 4⟩
                    | (exfalso; have hz := HZF.out; rw [Bool.eq_false_iff] at hz; apply hz; simp only [Bool.and_eq_true, List.isEmpty_iff, beq_iff_eq]; exact ⟨by assumption, by assumption, by assumption, by assumption, by assumption⟩)
              · rw [hzz] at hz
                simp only [Bool.and_eq_true, List.isEmpty_iff, beq_iff_eq] at hz
                obtain ⟨z1, z2, z3, z4, z5⟩ := hz
                gi_wp2_with fail
                refine ⟨trivial, ?_⟩
                have HB : (decide (wh ≤ wA) && (!(false && !aA) && (decide (lA ≤ (y.args.length : Int)) && (decide ((y.args.length : Int) ≤ mA) && (!((m : Int) == 1 && !dmayB y.dep) && !((m : Int) != 1 && !isZeroT y.dep)))))) = true := by simp only [Bool.and_eq_true, decide_eq_true_eq, Bool.not_eq_true']; exact ⟨by omega, by simp, by omega, by omega, by rw [kb]; rfl, by rw [hzz]; simp⟩
                gi_wp2_with fail
                exact ⟨(KeepsOthers.of_grownBy (grown_below B8.out) (fun _ _ h => by cases h)).from _, KC.of B8.out, (fun z hz => by
                  rcases List.mem_append.1 hz with hz | hz
                  · exact H1.out z hz
                  · obtain rfl := List.mem_singleton.1 hz
                    rw [HOKX.out]; exact HB), M8.out⟩
          · cases aA
            · have HB : (decide (wh ≤ wA) && (!(true && !false) && (decide (lA ≤ (y.args.length : Int)) && (decide ((y.args.length : Int) ≤ mA) && (!((m : Int) == 1 && !dmayB y.dep) && !((m : Int) != 1 && !isZeroT y.dep)))))) = false := by simp
              gi_wp2_with fail
              exact ⟨((KeepsOthers.of_grownBy (grown_below B8.out) (fun _ _ h => by cases h)).trans (KeepsOthers.setCell _ _ _)).from _, ⟨rfl, _, List.mem_append_right _ (List.mem_singleton.2 rfl), by rw [HOKX.out]; exact HB⟩, M8.out.set 4⟩
            · by_cases q3 : (y.args.length : Int) < lA
              · have HB : (decide (wh ≤ wA) && (!(true && !true) && (decide (lA ≤ (y.args.length : Int)) && (decide ((y.args.length : Int) ≤ mA) && (!((m : Int) == 1 && !dmayB y.dep) && !((m : Int) != 1 && !isZeroT y.dep)))))) = false := by rw [decide_eq_false (show ¬ lA ≤ (y.args.length : Int) by omega)]; simp
                gi_wp2_with fail
                exact ⟨((KeepsOthers.of_grownBy (grown_below B8.out) (fun _ _ h => by cases h)).trans (KeepsOthers.setCell _ _ _)).from _, ⟨rfl, _, List.mem_append_right _ (List.mem_singleton.2 rfl), by rw [HOKX.out]; exact HB⟩, M8.out.set 4⟩
              by_cases q4 : mA < (y.args.length : Int)
              · have HB : (decide (wh ≤ wA) && (!(true && !true) && (decide (lA ≤ (y.args.length : Int)) && (decide ((y.args.length : Int) ≤ mA) && (!((m : Int) == 1 && !dmayB y.dep) && !((m : Int) != 1 && !isZeroT y.dep)))))) = false := by rw [decide_eq_false (show ¬ (y.args.length : Int) ≤ mA by omega)]; simp
                gi_wp2_with fail
                exact ⟨((KeepsOthers.of_grownBy (grown_below B8.out) (fun _ _ h => by cases h)).trans (KeepsOthers.setCell _ _ _)).from _, ⟨rfl, _, List.mem_append_right _ (List.mem_singleton.2 rfl), by rw [HOKX.out]; exact HB⟩, M8.out.set 4⟩
              by_cases k1 : m = 1
              · have kb : ((m : Int) == 1) = true := by simp only [beq_iff_eq]; omega
                have kb2 : ((m : Int) != 1) = false := by simp only [bne_eq_false_iff_eq]; omega
                cases hdm : dmayB y.dep
                · rw [hdm] at DM
                  gi_wp2_with fail
                  refine ⟨trivial, ?_⟩
                  gi_at_call 15
                  refine (CallsIn.inRound l (callsIn_wide.2 DM.out)).mono ?_
                  rintro e w9 ⟨rfl, hb9⟩
                  have hz8 := B8.out.size
                  have B9 := Lib.hid (B8.out.trans (hb9.mono B8.out.size))
                  have M9 := Lib.hid (M8.out.then hb9)
                  have rc := M9.out.res.cell
                  have rf := M9.out.res.frozen
                  obtain ⟨d0, d1, d2, d3, d4, d5, d6⟩ := (X8.out.then hb9).cells
                  rw [hm] at d0
                  clear hb9 c0 c1 c2 c3 c4 c5 c6 DM
                  have HB : (decide (wh ≤ wA) && (!(true && !true) && (decide (lA ≤ (y.args.length : Int)) && (decide ((y.args.length : Int) ≤ mA) && (!((m : Int) == 1 && !dmayB y.dep) && !((m : Int) != 1 && !isZeroT y.dep)))))) = false := by rw [hdm, kb]; simp
                  gi_wp2_with fail
                  exact ⟨((KeepsOthers.of_grownBy (grown_below B9.out) (fun _ _ h => by cases h)).trans (KeepsOthers.setCell _ _ _)).from _, ⟨rfl, _, List.mem_append_right _ (List.mem_singleton.2 rfl), by rw [HOKX.out]; exact HB⟩, M9.out.set 4⟩
                · rw [hdm] at DM
                  gi_wp2_with fail
                  refine ⟨trivial, ?_⟩
                  gi_at_call 15
                  refine (CallsIn.inRound l (callsIn_wide.2 DM.out)).mono ?_
                  rintro e w9 ⟨rfl, hb9⟩
                  have hz8 := B8.out.size
                  have B9 := Lib.hid (B8.out.trans (hb9.mono B8.out.size))
                  have M9 := Lib.hid (M8.out.then hb9)
                  have rc := M9.out.res.cell
                  have rf := M9.out.res.frozen
                  obtain ⟨d0, d1, d2, d3, d4, d5, d6⟩ := (X8.out.then hb9).cells
                  rw [hm] at d0
                  clear hb9 c0 c1 c2 c3 c4 c5 c6 DM
                  have HB : (decide (wh ≤ wA) && (!(true && !true) && (decide (lA ≤ (y.args.length : Int)) && (decide ((y.args.length : Int) ≤ mA) && (!((m : Int) == 1 && !dmayB y.dep) && !((m : Int) != 1 && !isZeroT y.dep)))))) = true := by simp only [Bool.and_eq_true, decide_eq_true_eq, Bool.not_eq_true']; exact ⟨by omega, by rfl, by omega, by omega, by rw [hdm, kb]; rfl, by rw [kb2]; rfl⟩
                  gi_wp2_with fail
                  exact ⟨(KeepsOthers.of_grownBy (grown_below B9.out) (fun _ _ h => by cases h)).from _, KC.of B9.out, (fun z hz => by
                    rcases List.mem_append.1 hz with hz | hz
                    · exact H1.out z hz
                    · obtain rfl := List.mem_singleton.1 hz
                      rw [HOKX.out]; exact HB), M9.out⟩
              · have kb : ((m : Int) == 1) = false := by simp only [beq_eq_false_iff_ne]; omega
                have kb2 : ((m : Int) != 1) = true := by simp only [bne_iff_ne]; omega
                have hz : ((bs y.dep.name).toList.isEmpty && (y.dep.op == 0 && (y.dep.evr.epoch == 0 && ((bs y.dep.evr.ver).toList.isEmpty && (bs y.dep.evr.rel).toList.isEmpty)))) = isZeroT y.dep := by unfold isZeroT isZero; rw [bs_toList, bs_toList, bs_toList]
                cases hzz : isZeroT y.dep
                · rw [hzz] at hz
                  have HZF := Lib.hid hz
                  clear hz
                  have HB : (decide (wh ≤ wA) && (!(true && !true) && (decide (lA ≤ (y.args.length : Int)) && (decide ((y.args.length : Int) ≤ mA) && (!((m : Int) == 1 && !dmayB y.dep) && !((m : Int) != 1 && !isZeroT y.dep)))))) = false := by rw [hzz, kb, kb2]; simp
                  gi_wp2_with fail
                  refine ⟨trivial, ?_⟩
                  gi_wp2_with fail
                  all_goals
                    first
                      | exact ⟨((KeepsOthers.of_grownBy (grown_below B8.out) (fun _ _ h => by cases h)).trans (KeepsOthers.setCell _ _ _)).from _, ⟨rfl, _, List.mem_append_right _ (List.mem_singleton.2 rfl), by rw [HOKX.out]; exact HB⟩, M8.out.set 4⟩
                      | (exfalso; have hz := HZF.out; rw [Bool.eq_false_iff] at hz; apply hz; simp only [Bool.and_eq_true, List.isEmpty_iff, beq_iff_eq]; exact ⟨by assumption, by assumption, by assumption, by assumption, by assumption⟩)
                · rw [hzz] at hz
                  simp only [Bool.and_eq_true, List.isEmpty_iff, beq_iff_eq] at hz
                  obtain ⟨z1, z2, z3, z4, z5⟩ := hz
                  gi_wp2_with fail
                  refine ⟨trivial, ?_⟩
                  have HB : (decide (wh ≤ wA) && (!(true && !true) && (decide (lA ≤ (y.args.length : Int)) && (decide ((y.args.length : Int) ≤ mA) && (!((m : Int) == 1 && !dmayB y.dep) && !((m : Int) != 1 && !isZeroT y.dep)))))) = true := by simp only [Bool.and_eq_true, decide_eq_true_eq, Bool.not_eq_true']; exact ⟨by omega, by rfl, by omega, by omega, by rw [kb]; rfl, by rw [hzz]; simp⟩
                  gi_wp2_with fail
                  exact ⟨(KeepsOthers.of_grownBy (grown_below B8.out) (fun _ _ h => by cases h)).from _, KC.of B8.out, (fun z hz => by
                    rcases List.mem_append.1 hz with hz | hz
                    · exact H1.out z hz
                    · obtain rfl := List.mem_singleton.1 hz
                      rw [HOKX.out]; exact HB), M8.out⟩
        case done =>
          rintro D ys W hD hys ⟨h1, h2⟩ hK
          have M7 := Lib.hid h2
          have HOK := Lib.hid (show mayE wh T = 0 by
            rw [HE.out, if_pos]
            rw [← hys]
            refine List.all_eq_true.2 fun y hy => ?_
            obtain ⟨z, hz, rfl⟩ := List.mem_map.1 hy
            exact h1 z hz)
          have HK := Lib.hid hK
          have HD := Lib.hid hD
          have rc := h2.res.cell
          have rf := h2.res.frozen
          clear h1 h2 hys hK hD
          gi_wp2
          refine ⟨by simp, .inl ⟨_, _, rfl, run_takeDeferred ((KeepsOthers.setCell _ _ _).same D _ HK.out rfl), ?_⟩⟩
          have MP := (M7.out.set 0).past (belowK_b (n₀ := w.heap.size + 3) (w := w6) (by omega) _ D _ (.deferred none) HD.out ((KeepsOthers.setCell _ ⟨w.heap.size + 2, 0, none⟩ (.int .i64 0)).same D _ HK.out rfl) rfl rfl)
          exact ⟨.int .i64 0, by simp [results, Tryd.results20, go_sem, MP.res.cell], by rw [HOK.out], MP.old⟩
        case stop =>
          rintro D c pre W hD hpre ⟨⟨rfl, x, hx, hbad⟩, h2⟩ hK
          have M7 := Lib.hid h2
          have HOK := Lib.hid (show mayE wh T = 4 by
            rw [HE.out, if_neg]
            intro hall
            have := List.all_eq_true.1 hall x.1 (hpre.subset (List.mem_map_of_mem hx))
            rw [hbad] at this
            cases this)
          have HK := Lib.hid hK
          have HD := Lib.hid hD
          clear h2 hK hD hx hbad hpre
          gi_wp2
          refine ⟨by simp, .inl ⟨_, _, rfl, run_takeDeferred HK.out, ?_⟩⟩
          have MP := M7.out.past (belowK_b (n₀ := w.heap.size + 3) (w := w6) (by omega) _ D _ (.deferred none) HD.out HK.out rfl rfl)
          exact ⟨.int .i64 4, by simp [results, Tryd.results20, go_sem, MP.res.cell], by rw [HOK.out], MP.old⟩

theorem shmay_any (T : RV) (wh : Int) (w : World) (hwh : 0 ≤ wh ∧ wh ≤ 255) (hI : PkIn w) (hKO : KO T) (hp : T.tree.parts ≤ 1000000) (hT : RTree w.heap.size w T) : Calls Tryd.prog 20 #[T.val, .int .u8 wh] w fun e w' => e = .returned (.int .i64 (mayE wh T)) ∧ Below w.heap.size w w' := callsIn_wide.1 (shmay_in T wh w hwh hI hKO hp hT)
end Go.Proofs.YtcpjignlhlcnpaaDoor
