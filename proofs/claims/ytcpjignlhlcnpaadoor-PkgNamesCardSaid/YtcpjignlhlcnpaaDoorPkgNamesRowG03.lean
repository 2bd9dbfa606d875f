/- VmIter -/
import Derived.Test.YtcpjignlhlcnpaaDoorPkgNamesRowG02
import Derived.RangeFuncNested
import Derived.RangeFuncBound
import Derived.RangeFuncCalls
import Derived.RangeFuncLeaves
import Derived.RangeFuncBox
import Derived.Shelf.Abstract
import Derived.Shelf.RegionOpen
import Derived.OwnWalkIn
import Derived.TacticsInMore
import Derived.LoopNIn
import Derived.LoopIn
set_option linter.unusedSimpArgs false
set_option linter.unusedVariables false
/- Walks: the iterator of vercmp: what it tells its loop, one behind the other. -/












namespace Go.Proofs.YtcpjignlhlcnpaaDoor
open Go.RowKit Go.Shelf
attribute [local go_sem] Oper.semAt_some
theorem asked_wide {P : Program} {o : Oper} {a : Act} {C : World → Prop} : Oper.askedIn Fence.wide P o a C = True := by simp [Oper.askedIn, Fence.wide]
attribute [local go_sem ↓ high] asked_wide

def prtArgs (x : Prt) : Array Value := #[.agg #[.int .u8 x.1, .string (bs x.2)]]

/-- behind the run's first byte at k the next m bytes are of it, and what is of it behind these is of it all -/
def Upto (p : UInt8 → Bool) (s : ByteArray) (k m : Nat) : Prop := (s.toList.drop (k + 1)).takeWhile p = (s.toList.drop (k + 1)).take m ++ (s.toList.drop (k + 1 + m)).takeWhile p
def Done (p : UInt8 → Bool) (s : ByteArray) (k m : Nat) : Prop := (s.toList.drop (k + 1)).takeWhile p = (s.toList.drop (k + 1)).take m
theorem Upto.next {p : UInt8 → Bool} {s : ByteArray} {k m : Nat} (h : Upto p s k m) (hlt : k + 1 + m < s.size) : (p s[k + 1 + m] = true → Upto p s k (m + 1)) ∧ (p s[k + 1 + m] = false → Done p s k m) := by
  unfold Upto at h
  rw [toList_drop s (k + 1 + m) hlt] at h
  constructor
  · intro g
    unfold Upto
    rw [List.takeWhile_cons_of_pos g] at h
    rw [h, take_snoc _ m (by rw [List.length_drop, size_toList]; omega)]
    rw [List.getElem_drop, toList_get s (k + 1 + m) hlt, List.append_assoc, List.singleton_append]; rfl
  · intro g
    rw [List.takeWhile_cons_of_neg (by simp [g]), List.append_nil] at h
    exact h
theorem Upto.last {p : UInt8 → Bool} {s : ByteArray} {k m : Nat} (h : Upto p s k m) (hm : k + 1 + m = s.size) : Done p s k m := by
  unfold Upto at h
  rw [List.drop_of_length_le (i := k + 1 + m) (by rw [size_toList]; omega)] at h
  simpa [Done] using h
theorem Done.cut {p : UInt8 → Bool} {s : ByteArray} {k m : Nat} (h : Done p s k m) (hlt : k < s.size) : s.extract k (k + 1 + m) = bs (s[k] :: (s.toList.drop (k + 1)).takeWhile p) := by
  rw [bs_extract, h, toList_drop s k hlt]
  rw [show k + 1 + m - k = m + 1 from by omega, List.take_succ_cons]
theorem Done.len {p : UInt8 → Bool} {s : ByteArray} {k m : Nat} (h : Done p s k m) (hm : k + 1 + m ≤ s.size) : ((s.toList.drop (k + 1)).takeWhile p).length = m := by
  rw [h, List.length_take, List.length_drop, size_toList]; omega
theorem Done.rest {p : UInt8 → Bool} {s : ByteArray} {k m : Nat} (h : Done p s k m) (hm : k + 1 + m ≤ s.size) : (s.toList.drop (k + 1)).dropWhile p = s.toList.drop (k + 1 + m) := by
  have h1 := List.takeWhile_append_dropWhile (p := p) (l := s.toList.drop (k + 1))
  have h2 : (s.toList.drop (k + 1)).dropWhile p = (s.toList.drop (k + 1)).drop ((s.toList.drop (k + 1)).takeWhile p).length := by
    have h3 : ∀ (a b c : Bytes), a ++ b = c → b = c.drop a.length := by
      intro a b c e
      rw [← e, List.drop_left]
    exact h3 _ _ _ h1
  rw [h2, h.len hm, List.drop_drop]
theorem kk_cases (c : UInt8) : kk c = 0 ∨ (kk c ≠ 0 ∧ kk c < 4) ∨ kk c = 4 ∨ kk c = 5 := by
  unfold kk
  rcases kd_cases c.toNat with h | h | h | h | h <;> rw [h] <;> simp
theorem like_yes {c d : UInt8} {v : Int} (g : kk c = v) (h : kd (d.toNat : Int) = v) : like c d = true := by
  unfold like; rw [g]; simpa [kk] using h
theorem like_no {c d : UInt8} {v : Int} (g : kk c = v) (h : ¬ kd (d.toNat : Int) = v) : like c d = false := by
  unfold like; rw [g]; simpa [kk] using h
theorem pts_num5 {c : UInt8} (l : Bytes) (h : kk c = 5) : pts (c :: l) = (5, zcut (c :: l.takeWhile (like c))) :: pts (l.dropWhile (like c)) := pts_num l h

theorem grown_below {w w' : World} (h : Below w.heap.size w w') : w.grownBy w' none := ⟨h.os, h.tape, h.output, h.size, fun k hk _ => h.block k hk⟩
def KBox (Bs : Nat) (W W' : World) : Prop := W'.cell? ⟨Bs, 0, none⟩ = W.cell? ⟨Bs, 0, none⟩ ∧ W.heap.size ≤ W'.heap.size

/-- the round's own part lies in a block of its own -/
def PartAt (w : World) (Bs : Nat) (s : ByteArray) (v : Int) (A : World) : Prop :=
  A.cell? ⟨Bs, 0, none⟩ = some (.string s) ∧ A.cell? ⟨w.heap.size, 0, none⟩ = some (.int .u8 v) ∧ A.cell? ⟨w.heap.size, 1, none⟩ = some (.string ⟨#[]⟩) ∧
    A.frozen? ⟨w.heap.size, 1, none⟩ = false ∧ Below w.heap.size w A
theorem new_part (w : World) (Bs : Nat) (s : ByteArray) (v : Int) (hc : w.cell? ⟨Bs, 0, none⟩ = some (.string s)) (hlt : Bs < w.heap.size) :
    PartAt w Bs s v (w.alloc (.cells #[.int .u8 v, .string ⟨#[]⟩] 98)) :=
  ⟨(World.cell?_alloc_lt w _ ⟨Bs, 0, none⟩ hlt).trans hc, (World.cell?_alloc_at _ _ _ _ rfl).trans rfl, (World.cell?_alloc_at _ _ _ _ rfl).trans rfl, World.frozen?_alloc_at _ _ _ _ rfl, (Below.refl _ _).alloc (Nat.le_refl _) _⟩
theorem PartAt.drewN {w : World} {Bs : Nat} {s : ByteArray} {v : Int} {A : World} (h : PartAt w Bs s v A) (n : Nat) : PartAt w Bs s v (A.drewN n) := ⟨h.1, h.2.1, h.2.2.1, h.2.2.2.1, h.2.2.2.2.trans ⟨rfl, rfl, rfl, Nat.le_refl _, fun _ _ => rfl⟩⟩

set_option maxRecDepth 100000 in
set_option maxHeartbeats 2000000 in
theorem parts1_in (n : Nat) (l Bs : Nat) (s : ByteArray) (hs : s.size ≤ 9223372036854775807) (J Jx : List Prt → World → Prop)
    (hY : ∀ pre x W, J pre W → pre.length < (pts s.toList).length → YieldAt Fence.wide (n - 1) Tryd.prog l (prtArgs x) W fun e W' =>
      (e = .returned (.bool true) ∧ J (pre ++ [x]) W' ∧ KBox Bs W W') ∨ (e = .returned (.bool false) ∧ Jx (pre ++ [x]) W'))
    (W : World) (hBs : W.cell? ⟨Bs, 0, none⟩ = some (.string s)) (hBn : Bs < W.heap.size) (hAb : AbidesFrom W.heap.size J) (h0 : J [] W) :
    CallsIn Fence.wide n Tryd.prog 75 #[.func (.yield l) #[] #[], .pointer (some ⟨Bs, 0, none⟩)] W fun e W' => (∃ v, e = .returned v) ∧
      ((∃ ys, ys = pts s.toList ∧ J ys W') ∨ (∃ pre, pre <+: pts s.toList ∧ Jx pre W')) := by
  refine callsIn_of_wp Tryd.func75 rfl trivial ?_ rfl
  simp only [Tryd.ntmps75, List.size_toArray, List.length_cons, List.length_nil, Nat.reduceAdd, Nat.reduceSub, Array.replicate_succ, Array.replicate_zero, List.push_toArray, List.append_toArray, List.nil_append, List.cons_append]
  gi_wp2
  gi_loopw [3] (fun i wr => ∃ (k : Nat) (pre : List Prt), k ≤ s.size ∧ i = .int .i64 k ∧ pts s.toList = pre ++ pts (s.toList.drop k) ∧ J pre wr ∧ wr.cell? ⟨Bs, 0, none⟩ = some (.string s) ∧ W.heap.size ≤ wr.heap.size)
    (fun i _ => s.size - (intOf i).toNat)
  case atStart => exact ⟨0, [], Nat.zero_le _, rfl, by simp, h0, hBs, Nat.le_refl _⟩
  case round =>
    obtain ⟨k, pre, hk, rfl, hp, hJs, hc, hsz⟩ := hrel
    by_cases hlt : k < s.size
    · have hdr := Lib.hid (toList_drop s k hlt)
      have hp' := Lib.hid hp
      clear hp
      have hmx : Tryd.prog.follows .mixedOrders = true := by kernel_rfl
      rename World => w0
      rcases kk_cases s[k] with g | g | g | g
      · have hk0 : kd (s[k].toNat : Int) = 0 := g
        gi_wp2_with (refine ⟨trivial, fun h => absurd h (by decide), ?_⟩; gi_at_call 76; refine (callsIn_wide.2 (kind_any _ _)).mono ?_; rintro e w' ⟨rfl, rfl⟩)
        have q := new_part w0 Bs s (0) hc (by omega)
        generalize w0.alloc (.cells #[.int .u8 (0), .string ⟨#[]⟩] 98) = A at *
        gi_loopw [3] (fun e W2 => e = .int .i64 ((k + 1 : Nat) : Int) ∧ PartAt w0 Bs s 0 W2) (fun e _ => s.size - (intOf e).toNat)
        case atStart => exact ⟨by go_num, q⟩
        case round =>
          obtain ⟨rfl, q⟩ := hrel
          obtain ⟨q1, q2, q3, q4, q5⟩ := id q
          gi_wp2
          gi_quiet (fail)
          have q' := q.drewN nq
          clear q q1 q2 q3 q4 q5
          generalize World.drewN wr nq = A at *
          obtain ⟨q1, q2, q3, q4, q5⟩ := id q'
          gi_wp2
          refine ⟨(fun _ h => by cases h), ?_⟩
          gi_wp2
          have hq := hAb pre w0 A none hJs (grown_below q5) (fun _ h => by cases h)
          have hqs := q5.size
          go_roundw
          case rel => exact ⟨k + 1, pre, by omega, by go_num, by rw [hp'.out, hdr.out, pts_zero _ g], hq, q1, by omega⟩
          case measure => simp [intOf]; omega
      · have hk0 : ((kd (s[k].toNat : Int)) == 0) = false := by have := g.1; simp only [kk] at this; simpa using this
        have hk00 : ¬ kd (s[k].toNat : Int) = 0 := by have := g.1; simp only [kk] at this; exact this
        have hk5 : ((kd (s[k].toNat : Int)) == 5) = false := by have := g.2; simp only [kk] at this; simp; omega
        have hk4 : decide ((4 : Int) ≤ kd (s[k].toNat : Int)) = false := decide_eq_false (by have := g.2; simp only [kk] at this; omega)
        gi_wp2_with (refine ⟨trivial, fun h => absurd h (by decide), ?_⟩; gi_at_call 76; refine (callsIn_wide.2 (kind_any _ _)).mono ?_; rintro e w' ⟨rfl, rfl⟩)
        have q := new_part w0 Bs s (kd (s[k].toNat : Int)) hc (by omega)
        generalize w0.alloc (.cells #[.int .u8 (kd (s[k].toNat : Int)), .string ⟨#[]⟩] 98) = A at *
        gi_loopw [3] (fun e W2 => e = .int .i64 ((k + 1 : Nat) : Int) ∧ PartAt w0 Bs s (kd (s[k].toNat : Int)) W2) (fun e _ => s.size - (intOf e).toNat)
        case atStart => exact ⟨by go_num, q⟩
        case round =>
          obtain ⟨rfl, q⟩ := hrel
          obtain ⟨q1, q2, q3, q4, q5⟩ := id q
          gi_wp2
          gi_quiet (fail)
          have q' := q.drewN nq
          clear q q1 q2 q3 q4 q5
          generalize World.drewN wr nq = A at *
          obtain ⟨q1, q2, q3, q4, q5⟩ := id q'
          have hq := q5
          obtain ⟨fn, tmps, assign, body, hy, hR⟩ := hY pre (kk s[k], []) (A) (hAb pre w0 _ none hJs (grown_below hq) (fun _ h => by cases h)) (by rw [hp'.out, hdr.out, pts_one _ g.1 g.2]; simp)
          have hcq := Lib.hid ((hq.cell (p := ⟨Bs, 0, none⟩) (show Bs < w0.heap.size by omega)).trans hc)
          have hqs := hq.size
          clear hq
          unfold prtArgs at hy
          dsimp only at hy
          rw [show bs [] = ⟨#[]⟩ from rfl] at hy
          unfold kk at hy
          gi_wp2
          refine ⟨fun h => absurd h (by decide), hR.mono ?_⟩
          rintro e W3 (⟨rfl, hJ3, hk3⟩ | ⟨rfl, hJx3⟩)
          · have hc3 := hk3.1.trans hcq.out
            have hs3 := Nat.le_trans (Nat.le_trans hsz hqs) hk3.2
            clear hk3
            gi_wp2
            go_roundw
            case rel => exact ⟨k + 1, pre ++ [(kk s[k], [])], by omega, by go_num, by rw [hp'.out, hdr.out, pts_one _ g.1 g.2]; simp, hJ3, hc3, hs3⟩
            case measure => simp [intOf]; omega
          · gi_wp2
            refine bodyPost_ret (results_none rfl _ _ _) rfl ?_
            exact ⟨⟨_, rfl⟩, .inr ⟨_, ⟨_, by rw [hp'.out, hdr.out, pts_one _ g.1 g.2, List.append_assoc]; rfl⟩, hJx3⟩⟩
      · have hk0 : kd (s[k].toNat : Int) = 4 := g
        gi_wp2_with (refine ⟨trivial, fun h => absurd h (by decide), ?_⟩; gi_at_call 76; refine (callsIn_wide.2 (kind_any _ _)).mono ?_; rintro e w' ⟨rfl, rfl⟩)
        have q := new_part w0 Bs s (4) hc (by omega)
        generalize w0.alloc (.cells #[.int .u8 (4), .string ⟨#[]⟩] 98) = A at *
        gi_loopw [3] (fun e W2 => ∃ m : Nat, k + 1 + m ≤ s.size ∧ e = .int .i64 ((k + 1 + m : Nat) : Int) ∧ Upto (like s[k]) s k m ∧ PartAt w0 Bs s 4 W2) (fun e _ => s.size - (intOf e).toNat)
        case atStart => exact ⟨0, by omega, by go_num, by unfold Upto; simp, q⟩
        case round =>
          obtain ⟨m, hm, rfl, hup, q⟩ := hrel
          obtain ⟨q1, q2, q3, q4, q5⟩ := id q
          by_cases hlt2 : k + 1 + m < s.size
          · have hup2 := Upto.next hup hlt2
            have hgt0 : (0 : Int) ≤ (k : Int) + 1 + (m : Int) := by omega
            have hgt : (k : Int) + 1 + (m : Int) < (s.size : Int) := by omega
            by_cases hin : kd (s[k + 1 + m].toNat : Int) = 4
            · have H2 := Lib.hid (hup2.1 (like_yes g hin))
              clear hup hup2
              gi_wp2
              gi_quiet (exact ⟨fun h => absurd h (by decide), callsIn_wide.2 ((kind_any _ _).mono (fun _ _ h => ⟨h.1, _, h.2.symm⟩))⟩)
              have q' := q.drewN nq
              clear q q1 q2 q3 q4 q5
              generalize World.drewN wr nq = A at *
              obtain ⟨q1, q2, q3, q4, q5⟩ := id q'
              gi_wp2
              go_roundw
              case rel => exact ⟨m + 1, by omega, by go_num, H2.out, q'⟩
              case measure => simp [intOf]; omega
            · have H2 := Lib.hid (hup2.2 (like_no g hin))
              have hin2 : (kd (s[k + 1 + m].toNat : Int) == 4) = false := by simpa using hin
              clear hup hup2 hin
              have he := Lib.hid (Done.cut H2.out hlt)
              gi_wp2
              gi_quiet (exact ⟨fun h => absurd h (by decide), callsIn_wide.2 ((kind_any _ _).mono (fun _ _ h => ⟨h.1, _, h.2.symm⟩))⟩)
              have q' := q.drewN nq
              clear q q1 q2 q3 q4 q5
              generalize World.drewN wr nq = A at *
              obtain ⟨q1, q2, q3, q4, q5⟩ := id q'
              have hq := q5.setCell (p := ⟨w0.heap.size, 1, none⟩) (Nat.le_refl _) (.string (s.extract k (k + 1 + m)))
              obtain ⟨fn, tmps, assign, body, hy, hR⟩ := hY pre (4, s[k] :: (s.toList.drop (k + 1)).takeWhile (like s[k])) (A.setCell ⟨w0.heap.size, 1, none⟩ (.string (s.extract k (k + 1 + m)))) (hAb pre w0 _ none hJs (grown_below hq) (fun _ h => by cases h)) (by rw [hp'.out, hdr.out, pts_word _ g]; simp)
              have hcq := Lib.hid ((hq.cell (p := ⟨Bs, 0, none⟩) (show Bs < w0.heap.size by omega)).trans hc)
              have hqs := hq.size
              clear hq
              unfold prtArgs at hy
              dsimp only at hy
              rw [← he.out] at hy
              gi_wp2
              refine ⟨fun h => absurd h (by decide), hR.mono ?_⟩
              rintro e W3 (⟨rfl, hJ3, hk3⟩ | ⟨rfl, hJx3⟩)
              · have hc3 := hk3.1.trans hcq.out
                have hs3 := Nat.le_trans (Nat.le_trans hsz hqs) hk3.2
                clear hk3
                gi_wp2
                go_roundw
                case rel => exact ⟨k + 1 + m, pre ++ [(4, s[k] :: (s.toList.drop (k + 1)).takeWhile (like s[k]))], by omega, by go_num, by rw [hp'.out, hdr.out, pts_word _ g, H2.out.rest hm]; simp, hJ3, hc3, hs3⟩
                case measure => simp [intOf]; omega
              · gi_wp2
                refine bodyPost_ret (results_none rfl _ _ _) rfl ?_
                exact ⟨⟨_, rfl⟩, .inr ⟨_, ⟨_, by rw [hp'.out, hdr.out, pts_word _ g, H2.out.rest hm, List.append_assoc]; rfl⟩, hJx3⟩⟩
          · have H2 := Lib.hid (Upto.last hup (by omega))
            have hgd : decide ((k : Int) + 1 + (m : Int) < (s.size : Int)) = false := decide_eq_false (by omega)
            clear hup
            have he := Lib.hid (Done.cut H2.out hlt)
            gi_wp2
            gi_quiet (fail)
            have q' := q.drewN nq
            clear q q1 q2 q3 q4 q5
            generalize World.drewN wr nq = A at *
            obtain ⟨q1, q2, q3, q4, q5⟩ := id q'
            have hq := q5.setCell (p := ⟨w0.heap.size, 1, none⟩) (Nat.le_refl _) (.string (s.extract k (k + 1 + m)))
            obtain ⟨fn, tmps, assign, body, hy, hR⟩ := hY pre (4, s[k] :: (s.toList.drop (k + 1)).takeWhile (like s[k])) (A.setCell ⟨w0.heap.size, 1, none⟩ (.string (s.extract k (k + 1 + m)))) (hAb pre w0 _ none hJs (grown_below hq) (fun _ h => by cases h)) (by rw [hp'.out, hdr.out, pts_word _ g]; simp)
            have hcq := Lib.hid ((hq.cell (p := ⟨Bs, 0, none⟩) (show Bs < w0.heap.size by omega)).trans hc)
            have hqs := hq.size
            clear hq
            unfold prtArgs at hy
            dsimp only at hy
            rw [← he.out] at hy
            gi_wp2
            refine ⟨fun h => absurd h (by decide), hR.mono ?_⟩
            rintro e W3 (⟨rfl, hJ3, hk3⟩ | ⟨rfl, hJx3⟩)
            · have hc3 := hk3.1.trans hcq.out
              have hs3 := Nat.le_trans (Nat.le_trans hsz hqs) hk3.2
              clear hk3
              gi_wp2
              go_roundw
              case rel => exact ⟨k + 1 + m, pre ++ [(4, s[k] :: (s.toList.drop (k + 1)).takeWhile (like s[k]))], by omega, by go_num, by rw [hp'.out, hdr.out, pts_word _ g, H2.out.rest hm]; simp, hJ3, hc3, hs3⟩
              case measure => simp [intOf]; omega
            · gi_wp2
              refine bodyPost_ret (results_none rfl _ _ _) rfl ?_
              exact ⟨⟨_, rfl⟩, .inr ⟨_, ⟨_, by rw [hp'.out, hdr.out, pts_word _ g, H2.out.rest hm, List.append_assoc]; rfl⟩, hJx3⟩⟩
      · have hk0 : kd (s[k].toNat : Int) = 5 := g
        gi_wp2_with (refine ⟨trivial, fun h => absurd h (by decide), ?_⟩; gi_at_call 76; refine (callsIn_wide.2 (kind_any _ _)).mono ?_; rintro e w' ⟨rfl, rfl⟩)
        have q := new_part w0 Bs s (5) hc (by omega)
        generalize w0.alloc (.cells #[.int .u8 (5), .string ⟨#[]⟩] 98) = A at *
        gi_loopw [3] (fun e W2 => ∃ m : Nat, k + 1 + m ≤ s.size ∧ e = .int .i64 ((k + 1 + m : Nat) : Int) ∧ Upto (like s[k]) s k m ∧ PartAt w0 Bs s 5 W2) (fun e _ => s.size - (intOf e).toNat)
        case atStart => exact ⟨0, by omega, by go_num, by unfold Upto; simp, q⟩
        case round =>
          obtain ⟨m, hm, rfl, hup, q⟩ := hrel
          obtain ⟨q1, q2, q3, q4, q5⟩ := id q
          by_cases hlt2 : k + 1 + m < s.size
          · have hup2 := Upto.next hup hlt2
            have hgt0 : (0 : Int) ≤ (k : Int) + 1 + (m : Int) := by omega
            have hgt : (k : Int) + 1 + (m : Int) < (s.size : Int) := by omega
            by_cases hin : kd (s[k + 1 + m].toNat : Int) = 5
            · have H2 := Lib.hid (hup2.1 (like_yes g hin))
              clear hup hup2
              gi_wp2
              gi_quiet (exact ⟨fun h => absurd h (by decide), callsIn_wide.2 ((kind_any _ _).mono (fun _ _ h => ⟨h.1, _, h.2.symm⟩))⟩)
              have q' := q.drewN nq
              clear q q1 q2 q3 q4 q5
              generalize World.drewN wr nq = A at *
              obtain ⟨q1, q2, q3, q4, q5⟩ := id q'
              gi_wp2
              go_roundw
              case rel => exact ⟨m + 1, by omega, by go_num, H2.out, q'⟩
              case measure => simp [intOf]; omega
            · have H2 := Lib.hid (hup2.2 (like_no g hin))
              have hin2 : (kd (s[k + 1 + m].toNat : Int) == 5) = false := by simpa using hin
              clear hup hup2 hin
              have he := Lib.hid (Done.cut H2.out hlt)
              gi_wp2
              gi_quiet (exact ⟨fun h => absurd h (by decide), callsIn_wide.2 ((kind_any _ _).mono (fun _ _ h => ⟨h.1, _, h.2.symm⟩))⟩)
              have q' := q.drewN nq
              clear q q1 q2 q3 q4 q5
              generalize World.drewN wr nq = A at *
              obtain ⟨q1, q2, q3, q4, q5⟩ := id q'
              have hq := (q5.setCell (p := ⟨w0.heap.size, 1, none⟩) (Nat.le_refl _) (.string (s.extract k (k + 1 + m)))).setCell (p := ⟨w0.heap.size, 1, none⟩) (Nat.le_refl _) (.string (bs (zcut (s.extract k (k + 1 + m)).toList)))
              obtain ⟨fn, tmps, assign, body, hy, hR⟩ := hY pre (5, zcut (s[k] :: (s.toList.drop (k + 1)).takeWhile (like s[k]))) ((A.setCell ⟨w0.heap.size, 1, none⟩ (.string (s.extract k (k + 1 + m)))).setCell ⟨w0.heap.size, 1, none⟩ (.string (bs (zcut (s.extract k (k + 1 + m)).toList)))) (hAb pre w0 _ none hJs (grown_below hq) (fun _ h => by cases h)) (by rw [hp'.out, hdr.out, pts_num5 _ g]; simp)
              have hcq := Lib.hid ((hq.cell (p := ⟨Bs, 0, none⟩) (show Bs < w0.heap.size by omega)).trans hc)
              have hqs := hq.size
              clear hq
              unfold prtArgs at hy
              dsimp only at hy
              have T := Lib.hid (fun W => trim_any (s.extract k (k + 1 + m)) (by simp; omega) W)
              have hz := Lib.hid (show bs (zcut (s.extract k (k + 1 + m)).toList) = bs (zcut (s[k] :: (s.toList.drop (k + 1)).takeWhile (like s[k]))) by rw [he.out, bs_toList])
              rw [← hz.out] at hy
              gi_wp2_with (refine ⟨trivial, fun h => absurd h (by decide), ?_⟩; gi_at_call 77; refine (callsIn_wide.2 (T.out _)).mono ?_; rintro e w' ⟨rfl, rfl⟩)
              refine ⟨fun h => absurd h (by decide), hR.mono ?_⟩
              rintro e W3 (⟨rfl, hJ3, hk3⟩ | ⟨rfl, hJx3⟩)
              · have hc3 := hk3.1.trans hcq.out
                have hs3 := Nat.le_trans (Nat.le_trans hsz hqs) hk3.2
                clear hk3
                gi_wp2
                go_roundw
                case rel => exact ⟨k + 1 + m, pre ++ [(5, zcut (s[k] :: (s.toList.drop (k + 1)).takeWhile (like s[k])))], by omega, by go_num, by rw [hp'.out, hdr.out, pts_num5 _ g, H2.out.rest hm]; simp, hJ3, hc3, hs3⟩
                case measure => simp [intOf]; omega
              · gi_wp2
                refine bodyPost_ret (results_none rfl _ _ _) rfl ?_
                exact ⟨⟨_, rfl⟩, .inr ⟨_, ⟨_, by rw [hp'.out, hdr.out, pts_num5 _ g, H2.out.rest hm, List.append_assoc]; rfl⟩, hJx3⟩⟩
          · have H2 := Lib.hid (Upto.last hup (by omega))
            have hgd : decide ((k : Int) + 1 + (m : Int) < (s.size : Int)) = false := decide_eq_false (by omega)
            clear hup
            have he := Lib.hid (Done.cut H2.out hlt)
            gi_wp2
            gi_quiet (fail)
            have q' := q.drewN nq
            clear q q1 q2 q3 q4 q5
            generalize World.drewN wr nq = A at *
            obtain ⟨q1, q2, q3, q4, q5⟩ := id q'
            have hq := (q5.setCell (p := ⟨w0.heap.size, 1, none⟩) (Nat.le_refl _) (.string (s.extract k (k + 1 + m)))).setCell (p := ⟨w0.heap.size, 1, none⟩) (Nat.le_refl _) (.string (bs (zcut (s.extract k (k + 1 + m)).toList)))
            obtain ⟨fn, tmps, assign, body, hy, hR⟩ := hY pre (5, zcut (s[k] :: (s.toList.drop (k + 1)).takeWhile (like s[k]))) ((A.setCell ⟨w0.heap.size, 1, none⟩ (.string (s.extract k (k + 1 + m)))).setCell ⟨w0.heap.size, 1, none⟩ (.string (bs (zcut (s.extract k (k + 1 + m)).toList)))) (hAb pre w0 _ none hJs (grown_below hq) (fun _ h => by cases h)) (by rw [hp'.out, hdr.out, pts_num5 _ g]; simp)
            have hcq := Lib.hid ((hq.cell (p := ⟨Bs, 0, none⟩) (show Bs < w0.heap.size by omega)).trans hc)
            have hqs := hq.size
            clear hq
            unfold prtArgs at hy
            dsimp only at hy
            have T := Lib.hid (fun W => trim_any (s.extract k (k + 1 + m)) (by simp; omega) W)
            have hz := Lib.hid (show bs (zcut (s.extract k (k + 1 + m)).toList) = bs (zcut (s[k] :: (s.toList.drop (k + 1)).takeWhile (like s[k]))) by rw [he.out, bs_toList])
            rw [← hz.out] at hy
            gi_wp2_with (refine ⟨trivial, fun h => absurd h (by decide), ?_⟩; gi_at_call 77; refine (callsIn_wide.2 (T.out _)).mono ?_; rintro e w' ⟨rfl, rfl⟩)
            refine ⟨fun h => absurd h (by decide), hR.mono ?_⟩
            rintro e W3 (⟨rfl, hJ3, hk3⟩ | ⟨rfl, hJx3⟩)
            · have hc3 := hk3.1.trans hcq.out
              have hs3 := Nat.le_trans (Nat.le_trans hsz hqs) hk3.2
              clear hk3
              gi_wp2
              go_roundw
              case rel => exact ⟨k + 1 + m, pre ++ [(5, zcut (s[k] :: (s.toList.drop (k + 1)).takeWhile (like s[k])))], by omega, by go_num, by rw [hp'.out, hdr.out, pts_num5 _ g, H2.out.rest hm]; simp, hJ3, hc3, hs3⟩
              case measure => simp [intOf]; omega
            · gi_wp2
              refine bodyPost_ret (results_none rfl _ _ _) rfl ?_
              exact ⟨⟨_, rfl⟩, .inr ⟨_, ⟨_, by rw [hp'.out, hdr.out, pts_num5 _ g, H2.out.rest hm, List.append_assoc]; rfl⟩, hJx3⟩⟩
    · obtain rfl : k = s.size := by omega
      gi_wp2
      go_end0
      exact ⟨⟨_, rfl⟩, .inl ⟨_, by rw [hp, List.drop_of_length_le (by rw [size_toList]; omega)]; simp [pts_nil], hJs⟩⟩
end Go.Proofs.YtcpjignlhlcnpaaDoor
