/- ShCount -/
import Derived.Test.YtcpjignlhlcnpaaDoorPkgNamesRowG21
set_option linter.unusedSimpArgs false
set_option linter.unusedVariables false
/- Walk: of how many parts a rich dependency is (shape.Count). -/

namespace Go.Proofs.YtcpjignlhlcnpaaDoor
open Go.RowKit Go.Shelf
set_option linter.unusedVariables false
attribute [local go_sem] Oper.semAt_some
attribute [local go_sem ↓ high] asked_wide

mutual
theorem pl_len (al : Bool) : ∀ T : RV, (pl al T).length = T.tree.parts
  | .node k d A c l => by rw [pl, List.length_cons, plL_parts, RV.tree, RT.parts]; omega
theorem plL_parts (al : Bool) : ∀ l : List RV, (plL al l).length = partsL (treeL l)
  | [] => rfl
  | a :: l => by rw [plL, List.length_append, pl_len, plL_parts, treeL, partsL]
end
theorem rtree_tq {B : Nat} {W : World} {t : RV} (h : RTree B W t) : TQ (fun b => b < B) W t := by
  induction h with
  | mk h1 h2 _ ih =>
    refine .mk h1 h2.1 h2.2.1 (fun k hk => ?_) ih
    obtain ⟨b, o, e, q, hc⟩ := h2.2.2 k hk
    exact ⟨b, o, e, q, hc⟩
theorem tree_ne {R : Nat} {w W : World} {T : RV} (h : RTree w.heap.size w T) (hb : Below w.heap.size w W) (hR : w.heap.size ≤ R) : TQ (· ≠ R) W T :=
  (rtree_tq h).keep (fun b hq => by omega) fun b hq => hb.block b hq
theorem boxed_then {W W' : World} {B : Nat} {t : TypeId} {v : Value} (h : Boxed W B t v) (hb : Below W.heap.size W W') : Boxed W' B t v := (hb.block B h.lt).trans h
def CI (w : World) (R : Nat) (pre : List PtX) (W : World) : Prop := Boxed W R 3 (.int .i64 (pre.length : Int)) ∧ Below w.heap.size w W
theorem CI_own (w w2 : World) (R : Nat) (h : w.heap.size ≤ w2.heap.size) : OwnFrom w2.heap.size (CI w R) := by
  refine OwnFrom.and (fun s A B row hs hg hr => ?_) (ownFrom_below (Nat.le_refl _) h)
  refine (hg.block R hs.lt (fun e2 => ?_)).trans hs
  obtain ⟨_, o, ho, hc⟩ := hr R e2.symm
  have hs' : A.heap[R]? = some (.cells #[.int .i64 (s.length : Int)] 3 (0, 0)) := hs
  rw [hs'] at ho
  cases ho
  cases hc
set_option maxRecDepth 100000 in
set_option maxHeartbeats 16000000 in
theorem shcount_in (T : RV) (w : World) (hKO : KO T) (hp : T.tree.parts ≤ 1000000) (hT : RTree w.heap.size w T) : CallsIn Fence.wide 8 Tryd.prog 39 #[T.val] w fun e w' => e = .returned (.int .i64 (T.tree.parts : Int)) ∧ Below w.heap.size w w' := by
  have HKO := Lib.hid hKO
  have HT := Lib.hid hT
  have HP := Lib.hid hp
  have z1 : (w.alloc (.cells #[.int .u8 T.kind, .string (bs T.dep.name), .int .u8 T.dep.op, .int .i64 T.dep.evr.epoch, .string (bs T.dep.evr.ver), .string (bs T.dep.evr.rel), .slice T.addr T.args.length T.cap] 28)).heap.size = w.heap.size + 1 := by simp
  have z2 : ((w.alloc (.cells #[.int .u8 T.kind, .string (bs T.dep.name), .int .u8 T.dep.op, .int .i64 T.dep.evr.epoch, .string (bs T.dep.evr.ver), .string (bs T.dep.evr.rel), .slice T.addr T.args.length T.cap] 28)).alloc (.cells #[.int .i64 0] 3)).heap.size = w.heap.size + 2 := by simp
  have l2 := shparts_any T ((w.alloc (.cells #[.int .u8 T.kind, .string (bs T.dep.name), .int .u8 T.dep.op, .int .i64 T.dep.evr.epoch, .string (bs T.dep.evr.ver), .string (bs T.dep.evr.rel), .slice T.addr T.args.length T.cap] 28)).alloc (.cells #[.int .i64 0] 3))
  rw [z2] at l2
  have bn := Boxed.new (w.alloc (.cells #[.int .u8 T.kind, .string (bs T.dep.name), .int .u8 T.dep.op, .int .i64 T.dep.evr.epoch, .string (bs T.dep.evr.ver), .string (bs T.dep.evr.rel), .slice T.addr T.args.length T.cap] 28)) 3 (.int .i64 0)
  rw [z1] at bn
  have LI := Lib.hid l2
  have BN := Lib.hid bn
  have B1 := Lib.hid (((Below.refl w.heap.size w).alloc (Nat.le_refl _) (.cells #[.int .u8 T.kind, .string (bs T.dep.name), .int .u8 T.dep.op, .int .i64 T.dep.evr.epoch, .string (bs T.dep.evr.ver), .string (bs T.dep.evr.rel), .slice T.addr T.args.length T.cap] 28)).alloc (by simp) (.cells #[.int .i64 0] 3))
  clear hKO hT hp l2 bn z1 z2
  unfold RV.val
  unfold RV.val at LI
  refine callsIn_of_wp_marks Tryd.func39 rfl trivial ?_ rfl
  simp only [Tryd.ntmps39, List.size_toArray, List.length_cons, List.length_nil, Nat.reduceAdd, Nat.reduceSub, Array.replicate_succ, Array.replicate_zero, List.push_toArray, List.append_toArray, List.nil_append, List.cons_append]
  gi_wp2_with fail
  refine ⟨trivial, ?_⟩
  gi_at_call 41
  refine (callsIn_wide.2 LI.out).mono ?_
  rintro e w2 ⟨rfl, hP, hb, hz⟩
  have B2 := Lib.hid (B1.out.trans (hb.mono (by omega)))
  have BN2 := Lib.hid (boxed_then BN.out (hb.mono (by simp)))
  have HPA := Lib.hid hP
  have HZ := Lib.hid hz
  clear hP hb hz BN B1 LI
  gi_wp2_with fail
  refine wpIn_rangeFunc_ownG rfl (by decide) (gf := 55) (lb := #[.pointer (some ⟨w.heap.size + 2 + 1, 0, none⟩), .pointer (some ⟨w.heap.size + 2, 0, none⟩)]) rfl trivial (enters_of Tryd.func55 (by kernel_rfl) rfl)
    (shparts_stops 7 (w.heap.size + 1) (w.heap.size + 2) (w.heap.size + 2 + 1) T w2 (by omega) (by omega) HKO.out HPA.out (tree_ne HT.out B2.out (by omega)) (by have := HZ.out; omega)) kc_t (fun W l o o' _ h hc _ => kc_b W l o o' h hc) (Below.refl _ _) (fun _ => rfl)
    (CI w (w.heap.size + 1)) (fun _ _ _ => False) (CI_own w w2 _ B2.out.size) (fun _ _ _ _ _ h _ _ => h) ⟨BN2.out, B2.out⟩
    (fun x => { tmps := #[.agg #[.int .u8 T.kind, .string (bs T.dep.name), .int .u8 T.dep.op, .int .i64 T.dep.evr.epoch, .string (bs T.dep.evr.ver), .string (bs T.dep.evr.rel), .slice T.addr T.args.length T.cap], .pointer (some ⟨w.heap.size, 0, none⟩), .int .i64 0, .pointer (some ⟨w.heap.size + 1, 0, none⟩), .agg #[.int .u8 T.kind, .string (bs T.dep.name), .int .u8 T.dep.op, .int .i64 T.dep.evr.epoch, .string (bs T.dep.evr.ver), .string (bs T.dep.evr.rel), .slice T.addr T.args.length T.cap], .func (.func 55) #[] #[.pointer (some ⟨w.heap.size + 2 + 1, 0, none⟩), .pointer (some ⟨w.heap.size + 2, 0, none⟩)], x.1.1.val, .bool x.1.2, undef, undef, undef], defers := [] }) ?assign ?body ?done ?stop
  case assign =>
    intro l x W K hK
    gi_wp2
    simpa [pxArgs] using hK
  case body =>
    rintro l pre x W ⟨hb, hB⟩ hlt
    have hc := hb.cell
    have hf := hb.frozen
    have HB := Lib.hid hb
    have HBe := Lib.hid hB
    have hlt2 : (pre.length : Int) ≤ 1000000 := by rw [pl_len] at hlt; have := HP.out; omega
    clear hb hB hlt
    generalize x.1.1.val = vx at *
    gi_wp2
    refine ⟨(KeepsOthers.setCell _ _ _).from _, KC.set _ _ _, ?_, HBe.out.setCell (p := ⟨w.heap.size + 1, 0, none⟩) (by show w.heap.size ≤ w.heap.size + 1; omega) _⟩
    rw [List.length_append]
    exact HB.out.set _
  case done =>
    rintro D ys W hD hys ⟨hb, hB⟩ hK
    have hc := hb.cell
    have HBe := Lib.hid hB
    have HL := Lib.hid (show ys.length = T.tree.parts by rw [← firsts_len, hys, pl_len])
    have HD := Lib.hid hD
    have HK := Lib.hid hK
    clear hb hB hys hD hK
    gi_wp2
    refine ⟨by simp, .inl ⟨_, _, rfl, run_takeDeferred HK.out, ?_⟩⟩
    refine ⟨_, results_tmp rfl _ _ _, by rw [← HL.out]; rfl, HBe.out.trans (belowK_b (w := w) (Nat.le_refl _) W D _ _ (Nat.le_trans B2.out.size HD.out) HK.out rfl rfl)⟩
  case stop =>
    rintro D c pre W hD hpre h hK
    exact h.elim
theorem shcount_any (T : RV) (w : World) (hKO : KO T) (hp : T.tree.parts ≤ 1000000) (hT : RTree w.heap.size w T) : Calls Tryd.prog 39 #[T.val] w fun e w' => e = .returned (.int .i64 (T.tree.parts : Int)) ∧ Below w.heap.size w w' := callsIn_wide.1 (shcount_in T w hKO hp hT)
end Go.Proofs.YtcpjignlhlcnpaaDoor
