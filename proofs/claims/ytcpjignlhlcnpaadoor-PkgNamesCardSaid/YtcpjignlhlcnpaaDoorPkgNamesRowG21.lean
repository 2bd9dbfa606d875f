/- RichAtom, ShParts -/
import Derived.Test.YtcpjignlhlcnpaaDoorPkgNamesRowG18
import Derived.Test.YtcpjignlhlcnpaaDoorPkgNamesRowG17
import Derived.Test.YtcpjignlhlcnpaaDoorPkgNamesRowG01
import Derived.Test.YtcpjignlhlcnpaaDoorPkgNamesRowG15
import Derived.Test.YtcpjignlhlcnpaaDoorPkgNamesRowG20
import Derived.Deep.QuietTactic
import Derived.BigQuiet
import Derived.RangeFuncNested
import Derived.RangeFuncBound
import Derived.RangeFuncCalls
import Derived.RangeFuncLeaves
import Derived.RangeFuncBox
import Derived.Shelf.Abstract
import Derived.Shelf.RegionOpen
import Derived.OwnWalkIn
import Derived.TacticsInMore
import Derived.LoopNIn
import Derived.LoopIn
import Derived.Test.YtcpjignlhlcnpaaDoorShelf
import Derived.Shelf.Strings.BuilderX
import Derived.Lib.Builder
import Derived.Lib.AppendStr
import Derived.Lib.UnsafeStr
import Derived.Laws.Externs
import Derived.RegionTactic
import Derived.ChangeAlike
import Derived.Maps.AppendAt
import Derived.Laws.EntriesVeiled
set_option linter.unusedSimpArgs false
set_option linter.unusedVariables false
namespace Go.Proofs.YtcpjignlhlcnpaaDoor
section
/- Walks: a plain dependency is read out of words (rich.reader's plain). -/





open Go.RowKit Go.Shelf
set_option linter.unusedVariables false

theorem Box7.past {m : Nat} {a0 a1 a2 a3 a4 a5 a6 : Value} {W W' : World} (h : Box7 m a0 a1 a2 a3 a4 a5 a6 W) (hb : Below (m + 1) W W') : Box7 m a0 a1 a2 a3 a4 a5 a6 W' := by
  obtain ⟨⟨h0, h1, h2, h3, h4, h5, h6⟩, ⟨f0, f1, f2, f3, f4, f5, f6⟩, hl⟩ := h
  have hc : ∀ i, W'.cell? ⟨m, i, none⟩ = W.cell? ⟨m, i, none⟩ := fun i => hb.cell (p := ⟨m, i, none⟩) (Nat.lt_succ_self m)
  have hf : ∀ i, W'.frozen? ⟨m, i, none⟩ = W.frozen? ⟨m, i, none⟩ := fun i => hb.frozen (p := ⟨m, i, none⟩) (Nat.lt_succ_self m)
  exact ⟨⟨(hc 0).trans h0, (hc 1).trans h1, (hc 2).trans h2, (hc 3).trans h3, (hc 4).trans h4, (hc 5).trans h5, (hc 6).trans h6⟩, ⟨(hf 0).trans f0, (hf 1).trans f1, (hf 2).trans f2, (hf 3).trans f3, (hf 4).trans f4, (hf 5).trans f5, (hf 6).trans f6⟩, Nat.lt_of_lt_of_le hl hb.size⟩
end
section
/- Walks: shape.parts; of how many parts a rich dependency is (shape.Count). -/




open Go.RowKit Go.Shelf
set_option linter.unusedVariables false
attribute [local go_sem] Oper.semAt_some
attribute [local go_sem ↓ high] asked_wide

theorem room_none {F : Fence} (hd : F.depth = none) (k : Nat) : F.room k := fun d h => by rw [hd] at h; cases h
theorem round_any {F : Fence} (hd : F.depth = none) {m m' : Nat} {P : Program} {l : Nat} {f : FuncId} {tmps : Array Value} {assign body : Code} {w : World} {R : Ending → World → Prop}
    (h : RoundIn F m P l f tmps assign body w R) : RoundIn F m' P l f tmps assign body w R := ⟨h.1, fun c cs _ => h.2 c cs (room_none hd _)⟩
theorem yield_any {F : Fence} (hd : F.depth = none) {m : Nat} (m' : Nat) {P : Program} {l : Nat} {args : Array Value} {W : World} {R : Ending → World → Prop} (h : YieldAt F m P l args W R) : YieldAt F m' P l args W R := by
  obtain ⟨fn, tmps, assign, body, hy, hR⟩ := h
  exact ⟨fn, tmps, assign, body, hy, round_any hd hR⟩
/-- what shape.parts leaves: the rich dependency in a box, and the closure that calls itself -/
def PartsAt (T : RV) (rb tb : Nat) (W : World) : Prop :=
  Box7 rb (.int .u8 T.kind) (.string (bs T.dep.name)) (.int .u8 T.dep.op) (.int .i64 T.dep.evr.epoch) (.string (bs T.dep.evr.ver)) (.string (bs T.dep.evr.rel)) (.slice T.addr T.args.length T.cap) W ∧ W.cell? ⟨tb, 0, none⟩ = some (tellV tb) ∧ tb < W.heap.size
theorem PartsAt.then {T : RV} {rb tb : Nat} {W W' : World} (h : PartsAt T rb tb W) (hb : Below W.heap.size W W') : PartsAt T rb tb W' :=
  ⟨h.1.past (hb.mono h.1.2.2), (hb.cell (p := ⟨tb, 0, none⟩) h.2.2).trans h.2.1, Nat.lt_of_lt_of_le h.2.2 hb.size⟩
set_option maxRecDepth 100000 in
set_option maxHeartbeats 16000000 in
theorem shparts2_in (l R rb tb n : Nat) (T : RV) (J Jx : List PtX → World → Prop) (hrb : rb ≠ R) (htb : tb ≠ R) (hAl : ∀ pre W o, J pre W → J pre (W.alloc o))
    (hY : ∀ pre (x : PtX) W, J pre W → pre.length < (pl false T).length → YieldAt Fence.wide (n - 1) Tryd.prog l (pxArgs x) W fun e W' => (e = .returned (.bool true) ∧ J (pre ++ [x]) W' ∧ KC R W W') ∨ (e = .returned (.bool false) ∧ Jx (pre ++ [x]) W'))
    (W : World) (hKO : KO T) (hP : PartsAt T rb tb W) (hT : TQ (· ≠ R) W T) (hR : R < W.heap.size) (h0 : J [] W) :
    CallsIn Fence.wide n Tryd.prog 55 #[.func (.yield l) #[] #[], .pointer (some ⟨tb, 0, none⟩), .pointer (some ⟨rb, 0, none⟩)] W fun e W' => (∃ v, e = .returned v) ∧
      ((∃ ys, firsts ys = pl false T ∧ J ys W') ∨ (∃ pre, firsts pre <+: pl false T ∧ Jx pre W')) := by
  have hp := Lib.hid (tell_in l R tb (pl false T).length htb J Jx hAl (fun m pre x W hj hl _ => yield_any rfl m (hY pre x W hj hl)) T.ht T false (n - 1) [] W (Nat.le_refl _) hKO hT hR hP.2.1 h0 (by simp))
  obtain ⟨⟨⟨c0, c1, c2, c3, c4, c5, c6⟩, _, hl⟩, ct, ctl⟩ := hP
  unfold tellV at ct
  unfold RV.val at hp
  clear hT h0 hY
  refine callsIn_of_wp Tryd.func55 rfl trivial ?_ rfl
  simp only [Tryd.ntmps55, List.size_toArray, List.length_cons, List.length_nil, Nat.reduceAdd, Nat.reduceSub, Array.replicate_succ, Array.replicate_zero, List.push_toArray, List.append_toArray, List.nil_append, List.cons_append]
  gi_wp2
  refine ⟨trivial, fun h => absurd h (by decide), ?_⟩
  gi_at_call 54
  refine hp.out.mono ?_
  rintro e W4 (⟨rfl, ⟨zs, hzs, hJ4⟩, _⟩ | ⟨rfl, q, hq, hJx⟩)
  · have HZ := Lib.hid hzs
    have HJ := Lib.hid hJ4
    clear hzs hJ4 hp
    gi_wp2
    go_end0
    exact ⟨⟨_, rfl⟩, .inl ⟨_, HZ.out, by simpa using HJ.out⟩⟩
  · have HQ := Lib.hid hq
    have HJ := Lib.hid hJx
    clear hq hJx hp
    gi_wp2
    go_end0
    exact ⟨⟨_, rfl⟩, .inr ⟨q, HQ.out, by simpa using HJ.out⟩⟩
theorem shparts_stops (n R rb tb : Nat) (T : RV) (w : World) (hrb : rb ≠ R) (htb : tb ≠ R) (hKO : KO T) (hP : PartsAt T rb tb w) (hT : TQ (· ≠ R) w T) (hR : R < w.heap.size) :
    SeqStopsK Fence.wide n Tryd.prog 55 #[.pointer (some ⟨tb, 0, none⟩), .pointer (some ⟨rb, 0, none⟩)] pxArgs (KC R) (fun ys => firsts ys = pl false T) (fun pre => firsts pre <+: pl false T) (pl false T).length w :=
  fun l J Jx W hW hA _ hY h0 => shparts2_in l R rb tb n T J Jx hrb htb (fun pre W' o hj => hA pre W' _ none hj (World.grownBy_alloc W' o none) (fun _ h => by cases h)) hY W hKO (hP.then hW) (hT.kc (KC.of hW)) (Nat.lt_of_lt_of_le hR hW.size) h0
set_option maxRecDepth 100000 in
set_option maxHeartbeats 4000000 in
theorem shparts_any (T : RV) (w : World) : Calls Tryd.prog 41 #[T.val] w fun e w' => e = .returned (.func (.func 55) #[] #[.pointer (some ⟨w.heap.size + 1, 0, none⟩), .pointer (some ⟨w.heap.size, 0, none⟩)]) ∧ PartsAt T w.heap.size (w.heap.size + 1) w' ∧ Below w.heap.size w w' ∧ w'.heap.size = w.heap.size + 2 := by
  have hb := Lib.hid (Box7.new w (.int .u8 T.kind) (.string (bs T.dep.name)) (.int .u8 T.dep.op) (.int .i64 T.dep.evr.epoch) (.string (bs T.dep.evr.ver)) (.string (bs T.dep.evr.rel)) (.slice T.addr T.args.length T.cap) 28)
  unfold RV.val
  go_enter Tryd.func41, Tryd.ntmps41
  go_wp2_with fail

  refine bodyPost_ret (results_tmp rfl _ _ _) rfl ?_
  refine ⟨rfl, ⟨?_, ?_, ?_⟩, ?_, ?_⟩
  · exact hb.out.past ((Below.refl _ (w.alloc _)).alloc (by rw [World.size_alloc]; exact Nat.le_refl _) _)
  · exact (World.cell?_alloc_at _ _ _ _ (by rw [World.size_alloc])).trans rfl
  · rw [World.size_alloc, World.size_alloc]; omega
  · exact ((Below.refl _ _).alloc (Nat.le_refl _) _).alloc (by rw [World.size_alloc]; omega) _
  · rw [World.size_alloc, World.size_alloc]
end
end Go.Proofs.YtcpjignlhlcnpaaDoor
