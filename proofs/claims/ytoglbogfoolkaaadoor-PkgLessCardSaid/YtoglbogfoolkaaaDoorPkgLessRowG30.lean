/- ShParts -/
import Derived.Test.YtoglbogfoolkaaaDoorPkgLessRowG29
import Derived.Test.YtoglbogfoolkaaaDoorPkgLessRowG16
import Derived.Laws.EntriesVeiled
/- Walks: shape.parts; of how many parts a rich dependency is (shape.Count). -/



namespace Go.Proofs.YtoglbogfoolkaaaDoor
open Go.RowKit Go.Shelf
set_option linter.unusedVariables false
attribute [local go_sem] Oper.semAt_some
attribute [local go_sem ↓ high] asked_wide

theorem room_none {F : Fence} (hd : F.depth = none) (k : Nat) : F.room k := fun d h => by rw [hd] at h; cases h
theorem round_any {F : Fence} (hd : F.depth = none) {m m' : Nat} {P : Program} {l : Nat} {f : FuncId} {tmps : Array Value} {assign body : Code} {w : World} {R : Ending → World → Prop}
    (h : RoundIn F m P l f tmps assign body w R) : RoundIn F m' P l f tmps assign body w R := ⟨h.1, fun c cs _ => h.2 c cs (room_none hd _)⟩
theorem yield_any {F : Fence} (hd : F.depth = none) {m : Nat} (m' : Nat) {P : Program} {l : Nat} {args : Array Value} {W : World} {R : Ending → World → Prop} (h : YieldAt F m P l args W R) : YieldAt F m' P l args W R := by
  obtain ⟨fn, tmps, assign, body, hy, hR⟩ := h
  exact ⟨fn, tmps, assign, body, hy, round_any hd hR⟩
/-- what shape.parts leaves: the rich dependency in a box, and the closure that calls itself -/
def PartsAt (T : RV) (rb tb : Nat) (W : World) : Prop :=
  Box7 rb (.int .u8 T.kind) (.string (bs T.dep.name)) (.int .u8 T.dep.op) (.int .i64 T.dep.evr.epoch) (.string (bs T.dep.evr.ver)) (.string (bs T.dep.evr.rel)) (.slice T.addr T.args.length T.cap) W ∧ W.cell? ⟨tb, 0, none⟩ = some (tellV tb) ∧ tb < W.heap.size
theorem PartsAt.then {T : RV} {rb tb : Nat} {W W' : World} (h : PartsAt T rb tb W) (hb : Below W.heap.size W W') : PartsAt T rb tb W' :=
  ⟨h.1.past (hb.mono h.1.2.2), (hb.cell (p := ⟨tb, 0, none⟩) h.2.2).trans h.2.1, Nat.lt_of_lt_of_le h.2.2 hb.size⟩
set_option maxRecDepth 100000 in
set_option maxHeartbeats 16000000 in
theorem shparts2_in (l R rb tb n : Nat) (T : RV) (J Jx : List PtX → World → Prop) (hrb : rb ≠ R) (htb : tb ≠ R) (hAl : ∀ pre W o, J pre W → J pre (W.alloc o))
    (hY : ∀ pre (x : PtX) W, J pre W → pre.length < (pl false T).length → YieldAt Fence.wide (n - 1) Tryd.prog l (pxArgs x) W fun e W' => (e = .returned (.bool true) ∧ J (pre ++ [x]) W' ∧ KC R W W') ∨ (e = .returned (.bool false) ∧ Jx (pre ++ [x]) W'))
    (W : World) (hKO : KO T) (hP : PartsAt T rb tb W) (hT : TQ (· ≠ R) W T) (hR : R < W.heap.size) (h0 : J [] W) :
    CallsIn Fence.wide n Tryd.prog 61 #[.func (.yield l) #[] #[], .pointer (some ⟨tb, 0, none⟩), .pointer (some ⟨rb, 0, none⟩)] W fun e W' => (∃ v, e = .returned v) ∧
      ((∃ ys, firsts ys = pl false T ∧ J ys W') ∨ (∃ pre, firsts pre <+: pl false T ∧ Jx pre W')) := by
  have hp := Lib.hid (tell_in l R tb (pl false T).length htb J Jx hAl (fun m pre x W hj hl _ => yield_any rfl m (hY pre x W hj hl)) T.ht T false (n - 1) [] W (Nat.le_refl _) hKO hT hR hP.2.1 h0 (by simp))
  obtain ⟨⟨⟨c0, c1, c2, c3, c4, c5, c6⟩, _, hl⟩, ct, ctl⟩ := hP
  unfold tellV at ct
  unfold RV.val at hp
  clear hT h0 hY
  refine callsIn_of_wp Tryd.func61 rfl trivial ?_ rfl
  simp only [Tryd.ntmps61, List.size_toArray, List.length_cons, List.length_nil, Nat.reduceAdd, Nat.reduceSub, Array.replicate_succ, Array.replicate_zero, List.push_toArray, List.append_toArray, List.nil_append, List.cons_append]
  gi_wp2
  refine ⟨trivial, fun h => absurd h (by decide), ?_⟩
  gi_at_call 60
  refine hp.out.mono ?_
  rintro e W4 (⟨rfl, ⟨zs, hzs, hJ4⟩, _⟩ | ⟨rfl, q, hq, hJx⟩)
  · have HZ := Lib.hid hzs
    have HJ := Lib.hid hJ4
    clear hzs hJ4 hp
    gi_wp2
    go_end0
    exact ⟨⟨_, rfl⟩, .inl ⟨_, HZ.out, by simpa using HJ.out⟩⟩
  · have HQ := Lib.hid hq
    have HJ := Lib.hid hJx
    clear hq hJx hp
    gi_wp2
    go_end0
    exact ⟨⟨_, rfl⟩, .inr ⟨q, HQ.out, by simpa using HJ.out⟩⟩
theorem shparts_stops (n R rb tb : Nat) (T : RV) (w : World) (hrb : rb ≠ R) (htb : tb ≠ R) (hKO : KO T) (hP : PartsAt T rb tb w) (hT : TQ (· ≠ R) w T) (hR : R < w.heap.size) :
    SeqStopsK Fence.wide n Tryd.prog 61 #[.pointer (some ⟨tb, 0, none⟩), .pointer (some ⟨rb, 0, none⟩)] pxArgs (KC R) (fun ys => firsts ys = pl false T) (fun pre => firsts pre <+: pl false T) (pl false T).length w :=
  fun l J Jx W hW hA _ hY h0 => shparts2_in l R rb tb n T J Jx hrb htb (fun pre W' o hj => hA pre W' _ none hj (World.grownBy_alloc W' o none) (fun _ h => by cases h)) hY W hKO (hP.then hW) (hT.kc (KC.of hW)) (Nat.lt_of_lt_of_le hR hW.size) h0
set_option maxRecDepth 100000 in
set_option maxHeartbeats 4000000 in
theorem shparts_any (T : RV) (w : World) : Calls Tryd.prog 48 #[T.val] w fun e w' => e = .returned (.func (.func 61) #[] #[.pointer (some ⟨w.heap.size + 1, 0, none⟩), .pointer (some ⟨w.heap.size, 0, none⟩)]) ∧ PartsAt T w.heap.size (w.heap.size + 1) w' ∧ Below w.heap.size w w' ∧ w'.heap.size = w.heap.size + 2 := by
  have hb := Lib.hid (Box7.new w (.int .u8 T.kind) (.string (bs T.dep.name)) (.int .u8 T.dep.op) (.int .i64 T.dep.evr.epoch) (.string (bs T.dep.evr.ver)) (.string (bs T.dep.evr.rel)) (.slice T.addr T.args.length T.cap) 41)
  unfold RV.val
  go_enter Tryd.func48, Tryd.ntmps48
  go_wp2_with fail

  refine bodyPost_ret (results_tmp rfl _ _ _) rfl ?_
  refine ⟨rfl, ⟨?_, ?_, ?_⟩, ?_, ?_⟩
  · exact hb.out.past ((Below.refl _ (w.alloc _)).alloc (by rw [World.size_alloc]; exact Nat.le_refl _) _)
  · exact (World.cell?_alloc_at _ _ _ _ (by rw [World.size_alloc])).trans rfl
  · rw [World.size_alloc, World.size_alloc]; omega
  · exact ((Below.refl _ _).alloc (Nat.le_refl _) _).alloc (by rw [World.size_alloc]; omega) _
  · rw [World.size_alloc, World.size_alloc]
end Go.Proofs.YtoglbogfoolkaaaDoor
