/- joined: VmW0, VmIter, VmParts, VmCmp, VmComp, VmRef, VmRefC, VmRefD, EvCmp, EvRef, SpRef -/
import Derived.Test.YtpnnhhgojijlbaaDoorVmPlain
import Derived.Deep.QuietTactic
import Derived.BigQuiet
import Derived.RangeFuncNested
import Derived.RangeFuncBound
import Derived.RangeFuncCalls
import Derived.RangeFuncLeaves
import Derived.RangeFuncBox
import Derived.Shelf.Abstract
import Derived.Shelf.RegionOpen
import Derived.OwnWalkIn
import Derived.TacticsInMore
import Derived.LoopNIn
import Derived.LoopIn
import Derived.StillTailTactics
import Derived.RegionTactic
import Derived.ChangeAlike
import Derived.Sort.Walk0
import Derived.Deep.RegionWith
namespace Go.Proofs.YtpnnhhgojijlbaaDoor
open Go.RowKit Go.Shelf
set_option linter.unusedVariables false
/- Walks: the plain functions of vercmp, of its document, and of Go's cmp and strings that it asks. -/

theorem kd_126 : kd 126 = 1 := rfl
theorem kd_94 : kd 94 = 3 := rfl
theorem kd_low {n : Int} (h1 : 97 ≤ n) (h2 : n ≤ 122) : kd n = 4 := by unfold kd; rw [if_neg (by omega), if_neg (by omega), if_pos (.inl ⟨h1, h2⟩)]
theorem kd_up {n : Int} (h1 : 65 ≤ n) (h2 : n ≤ 90) : kd n = 4 := by unfold kd; rw [if_neg (by omega), if_neg (by omega), if_pos (.inr ⟨h1, h2⟩)]
theorem kd_dig {n : Int} (h1 : 48 ≤ n) (h2 : n ≤ 57) : kd n = 5 := by unfold kd; rw [if_neg (by omega), if_neg (by omega), if_neg (by omega), if_pos ⟨h1, h2⟩]
theorem kd_no {n : Int} (h1 : n ≠ 126) (h2 : n ≠ 94) (h3 : ¬ (97 ≤ n ∧ n ≤ 122)) (h4 : ¬ (65 ≤ n ∧ n ≤ 90)) (h5 : ¬ (48 ≤ n ∧ n ≤ 57)) : kd n = 0 := by
  unfold kd; rw [if_neg h1, if_neg h2, if_neg (by omega), if_neg h5]

set_option maxHeartbeats 1000000 in
theorem kind_any (n : Int) (w : World) : Calls Tryd.prog 147 #[.int .u8 n] w fun e w' => e = .returned (.int .u8 (kd n)) ∧ w = w' := by
  by_cases h1 : n = 126
  · subst h1
    go_enter Tryd.func147, Tryd.ntmps147
    go_wp2
    all_goals (go_ret; exact ⟨rfl, rfl⟩)
  by_cases h2 : n = 94
  · subst h2
    go_enter Tryd.func147, Tryd.ntmps147
    go_wp2
    all_goals (go_ret; exact ⟨rfl, rfl⟩)
  have b1 : (n == 126) = false := by simpa using h1
  have b2 : (n == 94) = false := by simpa using h2
  by_cases c1 : 97 ≤ n <;> by_cases c2 : n ≤ 122 <;> by_cases c3 : 65 ≤ n <;> by_cases c4 : n ≤ 90 <;> by_cases c5 : 48 ≤ n <;> by_cases c6 : n ≤ 57 <;> first | (exfalso; omega) | skip
  all_goals (go_enter Tryd.func147, Tryd.ntmps147; go_wp2; go_ret; refine ⟨ret_int ?_, rfl⟩; first | (rw [kd_low (by omega) (by omega)]) | (rw [kd_up (by omega) (by omega)]) | (rw [kd_dig (by omega) (by omega)]) | (rw [kd_no h1 h2 (by omega) (by omega) (by omega)]))
/-- zeros ahead cut off -/
def zcut (l : Bytes) : Bytes := l.dropWhile (· == 48)
set_option maxHeartbeats 1000000 in
theorem trimByte_any (s : ByteArray) (_hs : s.size ≤ 9223372036854775807) (w : World) : Calls Tryd.prog 156 #[.string s, .int .u8 48] w fun e w' => e = .returned (.string (bs (zcut s.toList))) ∧ w = w' := by
  go_enter Tryd.func156, Tryd.ntmps156
  go_wp2
  go_loop [0] (fun e => ∃ t : ByteArray, e = .string t ∧ t.size ≤ s.size ∧ zcut t.toList = zcut s.toList) (fun e => match e with | .string t => t.size | _ => 0)
  case atStart => exact ⟨s, rfl, Nat.le_refl _, rfl⟩
  case round =>
    obtain ⟨t, rfl, hl, he⟩ := hrel
    by_cases h0 : 0 < t.size
    · have hd := toList_drop t 0 h0
      simp only [List.drop_zero, Nat.zero_add] at hd
      by_cases hb : t[0] = 48
      · have h48 : ((t[0].toNat : Int) == 48) = true := by rw [hb]; rfl
        have ex : t.extract 1 t.size = bs (t.toList.drop 1) := by
          rw [bs_extract]
          congr 1
          exact List.take_of_length_le (by rw [List.length_drop, size_toList]; omega)
        have hz : zcut (bs (t.toList.drop 1)).toList = zcut s.toList := by
          rw [← he, hd, bs_toList, hb]; simp [zcut]
        have hd2 := Lib.hid hd
        have hz2 := Lib.hid hz
        have ex2 := Lib.hid ex
        clear hd hz ex
        go_wp2
        go_round
        case rel => exact ⟨_, rfl, by simp; omega, by rw [ex2.out]; exact hz2.out⟩
        case measure => simp; omega
      · have h48 : ((t[0].toNat : Int) == 48) = false := (show ((t[0].toNat : Int) == 48) = (t[0] == 48) from beq_toNat t[0] 48 (by omega)).trans (by simpa using hb)
        have hz : t = bs (zcut s.toList) := by
          rw [← he, hd]
          have hb2 : (t[0] == 48) = false := by simpa using hb
          simp only [zcut, List.dropWhile_cons, hb2, Bool.false_eq_true, if_false]
          rw [← hd, bs_of]
        have hz2 := Lib.hid hz
        clear hz hd he
        go_wp2
        go_ret
        exact ⟨ret_str hz2.out, rfl⟩
    · have hz : t = bs (zcut s.toList) := by
        rw [← he]
        have : t.toList = [] := List.eq_nil_of_length_eq_zero (by rw [size_toList]; omega)
        rw [this]
        exact (bs_of t).symm.trans (by rw [this]; rfl)
      have hz2 := Lib.hid hz
      clear hz he
      go_wp2
      go_ret
      exact ⟨ret_str hz2.out, rfl⟩
set_option maxRecDepth 100000 in
set_option maxHeartbeats 1000000 in
theorem trim_any (s : ByteArray) (hs : s.size ≤ 9223372036854775807) (w : World) : Calls Tryd.prog 148 #[.string s, .string ⟨#[48]⟩] w fun e w' => e = .returned (.string (bs (zcut s.toList))) ∧ w = w' := by
  have T := Lib.hid (fun W => trimByte_any s hs W)
  have h48 : ((({ data := #[48] } : ByteArray)[0]'(by decide)).toNat : Int) = 48 := rfl
  by_cases hE : s.toList = []
  · have hr := Lib.hid (show s = bs (zcut s.toList) by rw [hE]; exact (bs_of s).symm.trans (by rw [hE]; rfl))
    go_enter Tryd.func148, Tryd.ntmps148
    go_wp2
    go_ret
    exact ⟨ret_str hr.out, rfl⟩
  · have hi : s.toList.isEmpty = false := by simpa using hE
    go_enter Tryd.func148, Tryd.ntmps148
    go_wp2_with fail
    go_at_call 156
    refine (T.out w).mono ?_
    rintro e w1 ⟨rfl, rfl⟩
    go_wp2
    go_ret
    exact ⟨rfl, rfl⟩

/- the parts compared -/
def cmpI (a b : Int) : Int := if a < b then -1 else if b < a then 1 else 0
def ltB (a b : ByteArray) : Bool := Op.bytesLess a.toList b.toList
def cmpL (a b : Bytes) : Int := if Op.bytesLess a b then -1 else if a == b then 0 else 1
def cmpP (a b : Prt) : Int := if cmpI a.1 b.1 ≠ 0 then cmpI a.1 b.1 else if a.1 = 5 ∧ b.1 = 5 ∧ cmpI a.2.length b.2.length ≠ 0 then cmpI a.2.length b.2.length else cmpL a.2 b.2

theorem nan_int (x : Int) (w : World) : Calls Tryd.prog 118 #[.int .i64 x] w fun e w' => e = .returned (.bool false) ∧ w = w' := by
  go_enter Tryd.func118, Tryd.ntmps118
  go_wp2
  go_ret
  exact ⟨by simp, rfl⟩
theorem nan_u8 (x : Int) (w : World) : Calls Tryd.prog 149 #[.int .u8 x] w fun e w' => e = .returned (.bool false) ∧ w = w' := by
  go_enter Tryd.func149, Tryd.ntmps149
  go_wp2
  go_ret
  exact ⟨by simp, rfl⟩
theorem nan_str (x : ByteArray) (w : World) : Calls Tryd.prog 150 #[.string x] w fun e w' => e = .returned (.bool false) ∧ w = w' := by
  go_enter Tryd.func150, Tryd.ntmps150
  go_wp2
  go_ret
  exact ⟨by simp, rfl⟩
theorem cmp_int (a b : Int) (w : World) : Calls Tryd.prog 110 #[.int .i64 a, .int .i64 b] w fun e w' => e = .returned (.int .i64 (cmpI a b)) ∧ w = w' := by
  unfold cmpI
  by_cases h1 : a < b
  · have h2 : ¬ b < a := by omega
    go_enter Tryd.func110, Tryd.ntmps110
    go_wp2_with (go_at_call 118; refine (nan_int _ _).mono ?_; rintro e w' ⟨rfl, rfl⟩)
    go_ret
    exact ⟨by simp, rfl⟩
  by_cases h2 : b < a
  · go_enter Tryd.func110, Tryd.ntmps110
    go_wp2_with (go_at_call 118; refine (nan_int _ _).mono ?_; rintro e w' ⟨rfl, rfl⟩)
    go_ret
    exact ⟨by simp, rfl⟩
  · go_enter Tryd.func110, Tryd.ntmps110
    go_wp2_with (go_at_call 118; refine (nan_int _ _).mono ?_; rintro e w' ⟨rfl, rfl⟩)
    go_ret
    exact ⟨by simp, rfl⟩
theorem cmp_u8 (a b : Int) (w : World) : Calls Tryd.prog 133 #[.int .u8 a, .int .u8 b] w fun e w' => e = .returned (.int .i64 (cmpI a b)) ∧ w = w' := by
  unfold cmpI
  by_cases h1 : a < b
  · have h2 : ¬ b < a := by omega
    go_enter Tryd.func133, Tryd.ntmps133
    go_wp2_with (go_at_call 149; refine (nan_u8 _ _).mono ?_; rintro e w' ⟨rfl, rfl⟩)
    go_ret
    exact ⟨by simp, rfl⟩
  by_cases h2 : b < a
  · go_enter Tryd.func133, Tryd.ntmps133
    go_wp2_with (go_at_call 149; refine (nan_u8 _ _).mono ?_; rintro e w' ⟨rfl, rfl⟩)
    go_ret
    exact ⟨by simp, rfl⟩
  · go_enter Tryd.func133, Tryd.ntmps133
    go_wp2_with (go_at_call 149; refine (nan_u8 _ _).mono ?_; rintro e w' ⟨rfl, rfl⟩)
    go_ret
    exact ⟨by simp, rfl⟩
theorem cmp_str (a b : ByteArray) (w : World) : Calls Tryd.prog 134 #[.string a, .string b] w fun e w' => e = .returned (.int .i64 (cmpL a.toList b.toList)) ∧ w = w' := by
  unfold cmpL
  cases h1 : Op.bytesLess a.toList b.toList <;> cases h2 : a.toList == b.toList
  all_goals
    go_enter Tryd.func134, Tryd.ntmps134
    go_wp2_with (go_at_call 150; refine (nan_str _ _).mono ?_; rintro e w' ⟨rfl, rfl⟩)
    go_ret
    exact ⟨rfl, rfl⟩

/- Walks: the iterator of vercmp: what it tells its loop, one behind the other. -/
attribute [local go_sem] Oper.semAt_some
theorem asked_wide {P : Program} {o : Oper} {a : Act} {C : World → Prop} : Oper.askedIn Fence.wide P o a C = True := by simp [Oper.askedIn, Fence.wide]
attribute [local go_sem ↓ high] asked_wide

def prtArgs (x : Prt) : Array Value := #[.agg #[.int .u8 x.1, .string (bs x.2)]]

/-- behind the run's first byte at k the next m bytes are of it, and what is of it behind these is of it all -/
def Upto (p : UInt8 → Bool) (s : ByteArray) (k m : Nat) : Prop := (s.toList.drop (k + 1)).takeWhile p = (s.toList.drop (k + 1)).take m ++ (s.toList.drop (k + 1 + m)).takeWhile p
def Done (p : UInt8 → Bool) (s : ByteArray) (k m : Nat) : Prop := (s.toList.drop (k + 1)).takeWhile p = (s.toList.drop (k + 1)).take m
theorem Upto.next {p : UInt8 → Bool} {s : ByteArray} {k m : Nat} (h : Upto p s k m) (hlt : k + 1 + m < s.size) : (p s[k + 1 + m] = true → Upto p s k (m + 1)) ∧ (p s[k + 1 + m] = false → Done p s k m) := by
  unfold Upto at h
  rw [toList_drop s (k + 1 + m) hlt] at h
  constructor
  · intro g
    unfold Upto
    rw [List.takeWhile_cons_of_pos g] at h
    rw [h, take_snoc _ m (by rw [List.length_drop, size_toList]; omega)]
    rw [List.getElem_drop, toList_get s (k + 1 + m) hlt, List.append_assoc, List.singleton_append]; rfl
  · intro g
    rw [List.takeWhile_cons_of_neg (by simp [g]), List.append_nil] at h
    exact h
theorem Upto.last {p : UInt8 → Bool} {s : ByteArray} {k m : Nat} (h : Upto p s k m) (hm : k + 1 + m = s.size) : Done p s k m := by
  unfold Upto at h
  rw [List.drop_of_length_le (i := k + 1 + m) (by rw [size_toList]; omega)] at h
  simpa [Done] using h
theorem Done.cut {p : UInt8 → Bool} {s : ByteArray} {k m : Nat} (h : Done p s k m) (hlt : k < s.size) : s.extract k (k + 1 + m) = bs (s[k] :: (s.toList.drop (k + 1)).takeWhile p) := by
  rw [bs_extract, h, toList_drop s k hlt]
  rw [show k + 1 + m - k = m + 1 from by omega, List.take_succ_cons]
theorem Done.len {p : UInt8 → Bool} {s : ByteArray} {k m : Nat} (h : Done p s k m) (hm : k + 1 + m ≤ s.size) : ((s.toList.drop (k + 1)).takeWhile p).length = m := by
  rw [h, List.length_take, List.length_drop, size_toList]; omega
theorem Done.rest {p : UInt8 → Bool} {s : ByteArray} {k m : Nat} (h : Done p s k m) (hm : k + 1 + m ≤ s.size) : (s.toList.drop (k + 1)).dropWhile p = s.toList.drop (k + 1 + m) := by
  have h1 := List.takeWhile_append_dropWhile (p := p) (l := s.toList.drop (k + 1))
  have h2 : (s.toList.drop (k + 1)).dropWhile p = (s.toList.drop (k + 1)).drop ((s.toList.drop (k + 1)).takeWhile p).length := by
    have h3 : ∀ (a b c : Bytes), a ++ b = c → b = c.drop a.length := by
      intro a b c e
      rw [← e, List.drop_left]
    exact h3 _ _ _ h1
  rw [h2, h.len hm, List.drop_drop]
theorem kk_cases (c : UInt8) : kk c = 0 ∨ (kk c ≠ 0 ∧ kk c < 4) ∨ kk c = 4 ∨ kk c = 5 := by
  unfold kk
  rcases kd_cases c.toNat with h | h | h | h | h <;> rw [h] <;> simp
theorem like_yes {c d : UInt8} {v : Int} (g : kk c = v) (h : kd (d.toNat : Int) = v) : like c d = true := by
  unfold like; rw [g]; simpa [kk] using h
theorem like_no {c d : UInt8} {v : Int} (g : kk c = v) (h : ¬ kd (d.toNat : Int) = v) : like c d = false := by
  unfold like; rw [g]; simpa [kk] using h
theorem pts_num5 {c : UInt8} (l : Bytes) (h : kk c = 5) : pts (c :: l) = (5, zcut (c :: l.takeWhile (like c))) :: pts (l.dropWhile (like c)) := pts_num l h

theorem grown_below {w w' : World} (h : Below w.heap.size w w') : w.grownBy w' none := ⟨h.os, h.tape, h.output, h.size, fun k hk _ => h.block k hk⟩
def KBox (Bs : Nat) (W W' : World) : Prop := W'.cell? ⟨Bs, 0, none⟩ = W.cell? ⟨Bs, 0, none⟩ ∧ W.heap.size ≤ W'.heap.size

/-- the round's own part lies in a block of its own -/
def PartAt (w : World) (Bs : Nat) (s : ByteArray) (v : Int) (A : World) : Prop :=
  A.cell? ⟨Bs, 0, none⟩ = some (.string s) ∧ A.cell? ⟨w.heap.size, 0, none⟩ = some (.int .u8 v) ∧ A.cell? ⟨w.heap.size, 1, none⟩ = some (.string ⟨#[]⟩) ∧
    A.frozen? ⟨w.heap.size, 1, none⟩ = false ∧ Below w.heap.size w A
theorem new_part (w : World) (Bs : Nat) (s : ByteArray) (v : Int) (hc : w.cell? ⟨Bs, 0, none⟩ = some (.string s)) (hlt : Bs < w.heap.size) :
    PartAt w Bs s v (w.alloc (.cells #[.int .u8 v, .string ⟨#[]⟩] 171)) :=
  ⟨(World.cell?_alloc_lt w _ ⟨Bs, 0, none⟩ hlt).trans hc, (World.cell?_alloc_at _ _ _ _ rfl).trans rfl, (World.cell?_alloc_at _ _ _ _ rfl).trans rfl, World.frozen?_alloc_at _ _ _ _ rfl, (Below.refl _ _).alloc (Nat.le_refl _) _⟩
theorem PartAt.drewN {w : World} {Bs : Nat} {s : ByteArray} {v : Int} {A : World} (h : PartAt w Bs s v A) (n : Nat) : PartAt w Bs s v (A.drewN n) := ⟨h.1, h.2.1, h.2.2.1, h.2.2.2.1, h.2.2.2.2.trans ⟨rfl, rfl, rfl, Nat.le_refl _, fun _ _ => rfl⟩⟩

set_option maxRecDepth 100000 in
set_option maxHeartbeats 2000000 in
theorem parts1_in (n : Nat) (l Bs : Nat) (s : ByteArray) (hs : s.size ≤ 9223372036854775807) (J Jx : List Prt → World → Prop)
    (hY : ∀ pre x W, J pre W → pre.length < (pts s.toList).length → YieldAt Fence.wide (n - 1) Tryd.prog l (prtArgs x) W fun e W' =>
      (e = .returned (.bool true) ∧ J (pre ++ [x]) W' ∧ KBox Bs W W') ∨ (e = .returned (.bool false) ∧ Jx (pre ++ [x]) W'))
    (W : World) (hBs : W.cell? ⟨Bs, 0, none⟩ = some (.string s)) (hBn : Bs < W.heap.size) (hAb : AbidesFrom W.heap.size J) (h0 : J [] W) :
    CallsIn Fence.wide n Tryd.prog 146 #[.func (.yield l) #[] #[], .pointer (some ⟨Bs, 0, none⟩)] W fun e W' => (∃ v, e = .returned v) ∧
      ((∃ ys, ys = pts s.toList ∧ J ys W') ∨ (∃ pre, pre <+: pts s.toList ∧ Jx pre W')) := by
  refine callsIn_of_wp Tryd.func146 rfl trivial ?_ rfl
  simp only [Tryd.ntmps146, List.size_toArray, List.length_cons, List.length_nil, Nat.reduceAdd, Nat.reduceSub, Array.replicate_succ, Array.replicate_zero, List.push_toArray, List.append_toArray, List.nil_append, List.cons_append]
  gi_wp2
  gi_loopw [3] (fun i wr => ∃ (k : Nat) (pre : List Prt), k ≤ s.size ∧ i = .int .i64 k ∧ pts s.toList = pre ++ pts (s.toList.drop k) ∧ J pre wr ∧ wr.cell? ⟨Bs, 0, none⟩ = some (.string s) ∧ W.heap.size ≤ wr.heap.size)
    (fun i _ => s.size - (intOf i).toNat)
  case atStart => exact ⟨0, [], Nat.zero_le _, rfl, by simp, h0, hBs, Nat.le_refl _⟩
  case round =>
    obtain ⟨k, pre, hk, rfl, hp, hJs, hc, hsz⟩ := hrel
    by_cases hlt : k < s.size
    · have hdr := Lib.hid (toList_drop s k hlt)
      have hp' := Lib.hid hp
      clear hp
      have hmx : Tryd.prog.follows .mixedOrders = true := by kernel_rfl
      rename World => w0
      rcases kk_cases s[k] with g | g | g | g
      · have hk0 : kd (s[k].toNat : Int) = 0 := g
        gi_wp2_with (refine ⟨trivial, fun h => absurd h (by decide), ?_⟩; gi_at_call 147; refine (callsIn_wide.2 (kind_any _ _)).mono ?_; rintro e w' ⟨rfl, rfl⟩)
        have q := new_part w0 Bs s (0) hc (by omega)
        generalize w0.alloc (.cells #[.int .u8 (0), .string ⟨#[]⟩] 171) = A at *
        gi_loopw [3] (fun e W2 => e = .int .i64 ((k + 1 : Nat) : Int) ∧ PartAt w0 Bs s 0 W2) (fun e _ => s.size - (intOf e).toNat)
        case atStart => exact ⟨by go_num, q⟩
        case round =>
          obtain ⟨rfl, q⟩ := hrel
          obtain ⟨q1, q2, q3, q4, q5⟩ := id q
          gi_wp2
          gi_quiet (fail)
          have q' := q.drewN nq
          clear q q1 q2 q3 q4 q5
          generalize World.drewN wr nq = A at *
          obtain ⟨q1, q2, q3, q4, q5⟩ := id q'
          gi_wp2
          refine ⟨(fun _ h => by cases h), ?_⟩
          gi_wp2
          have hq := hAb pre w0 A none hJs (grown_below q5) (fun _ h => by cases h)
          have hqs := q5.size
          go_roundw
          case rel => exact ⟨k + 1, pre, by omega, by go_num, by rw [hp'.out, hdr.out, pts_zero _ g], hq, q1, by omega⟩
          case measure => simp [intOf]; omega
      · have hk0 : ((kd (s[k].toNat : Int)) == 0) = false := by have := g.1; simp only [kk] at this; simpa using this
        have hk00 : ¬ kd (s[k].toNat : Int) = 0 := by have := g.1; simp only [kk] at this; exact this
        have hk5 : ((kd (s[k].toNat : Int)) == 5) = false := by have := g.2; simp only [kk] at this; simp; omega
        have hk4 : decide ((4 : Int) ≤ kd (s[k].toNat : Int)) = false := decide_eq_false (by have := g.2; simp only [kk] at this; omega)
        gi_wp2_with (refine ⟨trivial, fun h => absurd h (by decide), ?_⟩; gi_at_call 147; refine (callsIn_wide.2 (kind_any _ _)).mono ?_; rintro e w' ⟨rfl, rfl⟩)
        have q := new_part w0 Bs s (kd (s[k].toNat : Int)) hc (by omega)
        generalize w0.alloc (.cells #[.int .u8 (kd (s[k].toNat : Int)), .string ⟨#[]⟩] 171) = A at *
        gi_loopw [3] (fun e W2 => e = .int .i64 ((k + 1 : Nat) : Int) ∧ PartAt w0 Bs s (kd (s[k].toNat : Int)) W2) (fun e _ => s.size - (intOf e).toNat)
        case atStart => exact ⟨by go_num, q⟩
        case round =>
          obtain ⟨rfl, q⟩ := hrel
          obtain ⟨q1, q2, q3, q4, q5⟩ := id q
          gi_wp2
          gi_quiet (fail)
          have q' := q.drewN nq
          clear q q1 q2 q3 q4 q5
          generalize World.drewN wr nq = A at *
          obtain ⟨q1, q2, q3, q4, q5⟩ := id q'
          have hq := q5
          obtain ⟨fn, tmps, assign, body, hy, hR⟩ := hY pre (kk s[k], []) (A) (hAb pre w0 _ none hJs (grown_below hq) (fun _ h => by cases h)) (by rw [hp'.out, hdr.out, pts_one _ g.1 g.2]; simp)
          have hcq := Lib.hid ((hq.cell (p := ⟨Bs, 0, none⟩) (show Bs < w0.heap.size by omega)).trans hc)
          have hqs := hq.size
          clear hq
          unfold prtArgs at hy
          dsimp only at hy
          rw [show bs [] = ⟨#[]⟩ from rfl] at hy
          unfold kk at hy
          gi_wp2
          refine ⟨fun h => absurd h (by decide), hR.mono ?_⟩
          rintro e W3 (⟨rfl, hJ3, hk3⟩ | ⟨rfl, hJx3⟩)
          · have hc3 := hk3.1.trans hcq.out
            have hs3 := Nat.le_trans (Nat.le_trans hsz hqs) hk3.2
            clear hk3
            gi_wp2
            go_roundw
            case rel => exact ⟨k + 1, pre ++ [(kk s[k], [])], by omega, by go_num, by rw [hp'.out, hdr.out, pts_one _ g.1 g.2]; simp, hJ3, hc3, hs3⟩
            case measure => simp [intOf]; omega
          · gi_wp2
            refine bodyPost_ret (results_none rfl _ _ _) rfl ?_
            exact ⟨⟨_, rfl⟩, .inr ⟨_, ⟨_, by rw [hp'.out, hdr.out, pts_one _ g.1 g.2, List.append_assoc]; rfl⟩, hJx3⟩⟩
      · have hk0 : kd (s[k].toNat : Int) = 4 := g
        gi_wp2_with (refine ⟨trivial, fun h => absurd h (by decide), ?_⟩; gi_at_call 147; refine (callsIn_wide.2 (kind_any _ _)).mono ?_; rintro e w' ⟨rfl, rfl⟩)
        have q := new_part w0 Bs s (4) hc (by omega)
        generalize w0.alloc (.cells #[.int .u8 (4), .string ⟨#[]⟩] 171) = A at *
        gi_loopw [3] (fun e W2 => ∃ m : Nat, k + 1 + m ≤ s.size ∧ e = .int .i64 ((k + 1 + m : Nat) : Int) ∧ Upto (like s[k]) s k m ∧ PartAt w0 Bs s 4 W2) (fun e _ => s.size - (intOf e).toNat)
        case atStart => exact ⟨0, by omega, by go_num, by unfold Upto; simp, q⟩
        case round =>
          obtain ⟨m, hm, rfl, hup, q⟩ := hrel
          obtain ⟨q1, q2, q3, q4, q5⟩ := id q
          by_cases hlt2 : k + 1 + m < s.size
          · have hup2 := Upto.next hup hlt2
            have hgt0 : (0 : Int) ≤ (k : Int) + 1 + (m : Int) := by omega
            have hgt : (k : Int) + 1 + (m : Int) < (s.size : Int) := by omega
            by_cases hin : kd (s[k + 1 + m].toNat : Int) = 4
            · have H2 := Lib.hid (hup2.1 (like_yes g hin))
              clear hup hup2
              gi_wp2
              gi_quiet (exact ⟨fun h => absurd h (by decide), callsIn_wide.2 ((kind_any _ _).mono (fun _ _ h => ⟨h.1, _, h.2.symm⟩))⟩)
              have q' := q.drewN nq
              clear q q1 q2 q3 q4 q5
              generalize World.drewN wr nq = A at *
              obtain ⟨q1, q2, q3, q4, q5⟩ := id q'
              gi_wp2
              go_roundw
              case rel => exact ⟨m + 1, by omega, by go_num, H2.out, q'⟩
              case measure => simp [intOf]; omega
            · have H2 := Lib.hid (hup2.2 (like_no g hin))
              have hin2 : (kd (s[k + 1 + m].toNat : Int) == 4) = false := by simpa using hin
              clear hup hup2 hin
              have he := Lib.hid (Done.cut H2.out hlt)
              gi_wp2
              gi_quiet (exact ⟨fun h => absurd h (by decide), callsIn_wide.2 ((kind_any _ _).mono (fun _ _ h => ⟨h.1, _, h.2.symm⟩))⟩)
              have q' := q.drewN nq
              clear q q1 q2 q3 q4 q5
              generalize World.drewN wr nq = A at *
              obtain ⟨q1, q2, q3, q4, q5⟩ := id q'
              have hq := q5.setCell (p := ⟨w0.heap.size, 1, none⟩) (Nat.le_refl _) (.string (s.extract k (k + 1 + m)))
              obtain ⟨fn, tmps, assign, body, hy, hR⟩ := hY pre (4, s[k] :: (s.toList.drop (k + 1)).takeWhile (like s[k])) (A.setCell ⟨w0.heap.size, 1, none⟩ (.string (s.extract k (k + 1 + m)))) (hAb pre w0 _ none hJs (grown_below hq) (fun _ h => by cases h)) (by rw [hp'.out, hdr.out, pts_word _ g]; simp)
              have hcq := Lib.hid ((hq.cell (p := ⟨Bs, 0, none⟩) (show Bs < w0.heap.size by omega)).trans hc)
              have hqs := hq.size
              clear hq
              unfold prtArgs at hy
              dsimp only at hy
              rw [← he.out] at hy
              gi_wp2
              refine ⟨fun h => absurd h (by decide), hR.mono ?_⟩
              rintro e W3 (⟨rfl, hJ3, hk3⟩ | ⟨rfl, hJx3⟩)
              · have hc3 := hk3.1.trans hcq.out
                have hs3 := Nat.le_trans (Nat.le_trans hsz hqs) hk3.2
                clear hk3
                gi_wp2
                go_roundw
                case rel => exact ⟨k + 1 + m, pre ++ [(4, s[k] :: (s.toList.drop (k + 1)).takeWhile (like s[k]))], by omega, by go_num, by rw [hp'.out, hdr.out, pts_word _ g, H2.out.rest hm]; simp, hJ3, hc3, hs3⟩
                case measure => simp [intOf]; omega
              · gi_wp2
                refine bodyPost_ret (results_none rfl _ _ _) rfl ?_
                exact ⟨⟨_, rfl⟩, .inr ⟨_, ⟨_, by rw [hp'.out, hdr.out, pts_word _ g, H2.out.rest hm, List.append_assoc]; rfl⟩, hJx3⟩⟩
          · have H2 := Lib.hid (Upto.last hup (by omega))
            have hgd : decide ((k : Int) + 1 + (m : Int) < (s.size : Int)) = false := decide_eq_false (by omega)
            clear hup
            have he := Lib.hid (Done.cut H2.out hlt)
            gi_wp2
            gi_quiet (fail)
            have q' := q.drewN nq
            clear q q1 q2 q3 q4 q5
            generalize World.drewN wr nq = A at *
            obtain ⟨q1, q2, q3, q4, q5⟩ := id q'
            have hq := q5.setCell (p := ⟨w0.heap.size, 1, none⟩) (Nat.le_refl _) (.string (s.extract k (k + 1 + m)))
            obtain ⟨fn, tmps, assign, body, hy, hR⟩ := hY pre (4, s[k] :: (s.toList.drop (k + 1)).takeWhile (like s[k])) (A.setCell ⟨w0.heap.size, 1, none⟩ (.string (s.extract k (k + 1 + m)))) (hAb pre w0 _ none hJs (grown_below hq) (fun _ h => by cases h)) (by rw [hp'.out, hdr.out, pts_word _ g]; simp)
            have hcq := Lib.hid ((hq.cell (p := ⟨Bs, 0, none⟩) (show Bs < w0.heap.size by omega)).trans hc)
            have hqs := hq.size
            clear hq
            unfold prtArgs at hy
            dsimp only at hy
            rw [← he.out] at hy
            gi_wp2
            refine ⟨fun h => absurd h (by decide), hR.mono ?_⟩
            rintro e W3 (⟨rfl, hJ3, hk3⟩ | ⟨rfl, hJx3⟩)
            · have hc3 := hk3.1.trans hcq.out
              have hs3 := Nat.le_trans (Nat.le_trans hsz hqs) hk3.2
              clear hk3
              gi_wp2
              go_roundw
              case rel => exact ⟨k + 1 + m, pre ++ [(4, s[k] :: (s.toList.drop (k + 1)).takeWhile (like s[k]))], by omega, by go_num, by rw [hp'.out, hdr.out, pts_word _ g, H2.out.rest hm]; simp, hJ3, hc3, hs3⟩
              case measure => simp [intOf]; omega
            · gi_wp2
              refine bodyPost_ret (results_none rfl _ _ _) rfl ?_
              exact ⟨⟨_, rfl⟩, .inr ⟨_, ⟨_, by rw [hp'.out, hdr.out, pts_word _ g, H2.out.rest hm, List.append_assoc]; rfl⟩, hJx3⟩⟩
      · have hk0 : kd (s[k].toNat : Int) = 5 := g
        gi_wp2_with (refine ⟨trivial, fun h => absurd h (by decide), ?_⟩; gi_at_call 147; refine (callsIn_wide.2 (kind_any _ _)).mono ?_; rintro e w' ⟨rfl, rfl⟩)
        have q := new_part w0 Bs s (5) hc (by omega)
        generalize w0.alloc (.cells #[.int .u8 (5), .string ⟨#[]⟩] 171) = A at *
        gi_loopw [3] (fun e W2 => ∃ m : Nat, k + 1 + m ≤ s.size ∧ e = .int .i64 ((k + 1 + m : Nat) : Int) ∧ Upto (like s[k]) s k m ∧ PartAt w0 Bs s 5 W2) (fun e _ => s.size - (intOf e).toNat)
        case atStart => exact ⟨0, by omega, by go_num, by unfold Upto; simp, q⟩
        case round =>
          obtain ⟨m, hm, rfl, hup, q⟩ := hrel
          obtain ⟨q1, q2, q3, q4, q5⟩ := id q
          by_cases hlt2 : k + 1 + m < s.size
          · have hup2 := Upto.next hup hlt2
            have hgt0 : (0 : Int) ≤ (k : Int) + 1 + (m : Int) := by omega
            have hgt : (k : Int) + 1 + (m : Int) < (s.size : Int) := by omega
            by_cases hin : kd (s[k + 1 + m].toNat : Int) = 5
            · have H2 := Lib.hid (hup2.1 (like_yes g hin))
              clear hup hup2
              gi_wp2
              gi_quiet (exact ⟨fun h => absurd h (by decide), callsIn_wide.2 ((kind_any _ _).mono (fun _ _ h => ⟨h.1, _, h.2.symm⟩))⟩)
              have q' := q.drewN nq
              clear q q1 q2 q3 q4 q5
              generalize World.drewN wr nq = A at *
              obtain ⟨q1, q2, q3, q4, q5⟩ := id q'
              gi_wp2
              go_roundw
              case rel => exact ⟨m + 1, by omega, by go_num, H2.out, q'⟩
              case measure => simp [intOf]; omega
            · have H2 := Lib.hid (hup2.2 (like_no g hin))
              have hin2 : (kd (s[k + 1 + m].toNat : Int) == 5) = false := by simpa using hin
              clear hup hup2 hin
              have he := Lib.hid (Done.cut H2.out hlt)
              gi_wp2
              gi_quiet (exact ⟨fun h => absurd h (by decide), callsIn_wide.2 ((kind_any _ _).mono (fun _ _ h => ⟨h.1, _, h.2.symm⟩))⟩)
              have q' := q.drewN nq
              clear q q1 q2 q3 q4 q5
              generalize World.drewN wr nq = A at *
              obtain ⟨q1, q2, q3, q4, q5⟩ := id q'
              have hq := (q5.setCell (p := ⟨w0.heap.size, 1, none⟩) (Nat.le_refl _) (.string (s.extract k (k + 1 + m)))).setCell (p := ⟨w0.heap.size, 1, none⟩) (Nat.le_refl _) (.string (bs (zcut (s.extract k (k + 1 + m)).toList)))
              obtain ⟨fn, tmps, assign, body, hy, hR⟩ := hY pre (5, zcut (s[k] :: (s.toList.drop (k + 1)).takeWhile (like s[k]))) ((A.setCell ⟨w0.heap.size, 1, none⟩ (.string (s.extract k (k + 1 + m)))).setCell ⟨w0.heap.size, 1, none⟩ (.string (bs (zcut (s.extract k (k + 1 + m)).toList)))) (hAb pre w0 _ none hJs (grown_below hq) (fun _ h => by cases h)) (by rw [hp'.out, hdr.out, pts_num5 _ g]; simp)
              have hcq := Lib.hid ((hq.cell (p := ⟨Bs, 0, none⟩) (show Bs < w0.heap.size by omega)).trans hc)
              have hqs := hq.size
              clear hq
              unfold prtArgs at hy
              dsimp only at hy
              have T := Lib.hid (fun W => trim_any (s.extract k (k + 1 + m)) (by simp; omega) W)
              have hz := Lib.hid (show bs (zcut (s.extract k (k + 1 + m)).toList) = bs (zcut (s[k] :: (s.toList.drop (k + 1)).takeWhile (like s[k]))) by rw [he.out, bs_toList])
              rw [← hz.out] at hy
              gi_wp2_with (refine ⟨trivial, fun h => absurd h (by decide), ?_⟩; gi_at_call 148; refine (callsIn_wide.2 (T.out _)).mono ?_; rintro e w' ⟨rfl, rfl⟩)
              refine ⟨fun h => absurd h (by decide), hR.mono ?_⟩
              rintro e W3 (⟨rfl, hJ3, hk3⟩ | ⟨rfl, hJx3⟩)
              · have hc3 := hk3.1.trans hcq.out
                have hs3 := Nat.le_trans (Nat.le_trans hsz hqs) hk3.2
                clear hk3
                gi_wp2
                go_roundw
                case rel => exact ⟨k + 1 + m, pre ++ [(5, zcut (s[k] :: (s.toList.drop (k + 1)).takeWhile (like s[k])))], by omega, by go_num, by rw [hp'.out, hdr.out, pts_num5 _ g, H2.out.rest hm]; simp, hJ3, hc3, hs3⟩
                case measure => simp [intOf]; omega
              · gi_wp2
                refine bodyPost_ret (results_none rfl _ _ _) rfl ?_
                exact ⟨⟨_, rfl⟩, .inr ⟨_, ⟨_, by rw [hp'.out, hdr.out, pts_num5 _ g, H2.out.rest hm, List.append_assoc]; rfl⟩, hJx3⟩⟩
          · have H2 := Lib.hid (Upto.last hup (by omega))
            have hgd : decide ((k : Int) + 1 + (m : Int) < (s.size : Int)) = false := decide_eq_false (by omega)
            clear hup
            have he := Lib.hid (Done.cut H2.out hlt)
            gi_wp2
            gi_quiet (fail)
            have q' := q.drewN nq
            clear q q1 q2 q3 q4 q5
            generalize World.drewN wr nq = A at *
            obtain ⟨q1, q2, q3, q4, q5⟩ := id q'
            have hq := (q5.setCell (p := ⟨w0.heap.size, 1, none⟩) (Nat.le_refl _) (.string (s.extract k (k + 1 + m)))).setCell (p := ⟨w0.heap.size, 1, none⟩) (Nat.le_refl _) (.string (bs (zcut (s.extract k (k + 1 + m)).toList)))
            obtain ⟨fn, tmps, assign, body, hy, hR⟩ := hY pre (5, zcut (s[k] :: (s.toList.drop (k + 1)).takeWhile (like s[k]))) ((A.setCell ⟨w0.heap.size, 1, none⟩ (.string (s.extract k (k + 1 + m)))).setCell ⟨w0.heap.size, 1, none⟩ (.string (bs (zcut (s.extract k (k + 1 + m)).toList)))) (hAb pre w0 _ none hJs (grown_below hq) (fun _ h => by cases h)) (by rw [hp'.out, hdr.out, pts_num5 _ g]; simp)
            have hcq := Lib.hid ((hq.cell (p := ⟨Bs, 0, none⟩) (show Bs < w0.heap.size by omega)).trans hc)
            have hqs := hq.size
            clear hq
            unfold prtArgs at hy
            dsimp only at hy
            have T := Lib.hid (fun W => trim_any (s.extract k (k + 1 + m)) (by simp; omega) W)
            have hz := Lib.hid (show bs (zcut (s.extract k (k + 1 + m)).toList) = bs (zcut (s[k] :: (s.toList.drop (k + 1)).takeWhile (like s[k]))) by rw [he.out, bs_toList])
            rw [← hz.out] at hy
            gi_wp2_with (refine ⟨trivial, fun h => absurd h (by decide), ?_⟩; gi_at_call 148; refine (callsIn_wide.2 (T.out _)).mono ?_; rintro e w' ⟨rfl, rfl⟩)
            refine ⟨fun h => absurd h (by decide), hR.mono ?_⟩
            rintro e W3 (⟨rfl, hJ3, hk3⟩ | ⟨rfl, hJx3⟩)
            · have hc3 := hk3.1.trans hcq.out
              have hs3 := Nat.le_trans (Nat.le_trans hsz hqs) hk3.2
              clear hk3
              gi_wp2
              go_roundw
              case rel => exact ⟨k + 1 + m, pre ++ [(5, zcut (s[k] :: (s.toList.drop (k + 1)).takeWhile (like s[k])))], by omega, by go_num, by rw [hp'.out, hdr.out, pts_num5 _ g, H2.out.rest hm]; simp, hJ3, hc3, hs3⟩
              case measure => simp [intOf]; omega
            · gi_wp2
              refine bodyPost_ret (results_none rfl _ _ _) rfl ?_
              exact ⟨⟨_, rfl⟩, .inr ⟨_, ⟨_, by rw [hp'.out, hdr.out, pts_num5 _ g, H2.out.rest hm, List.append_assoc]; rfl⟩, hJx3⟩⟩
    · obtain rfl : k = s.size := by omega
      gi_wp2
      go_end0
      exact ⟨⟨_, rfl⟩, .inl ⟨_, by rw [hp, List.drop_of_length_le (by rw [size_toList]; omega)]; simp [pts_nil], hJs⟩⟩

/- Walks: vercmp.Parts: the parts of any text. -/
attribute [local go_sem] Oper.semAt_some
attribute [local go_sem ↓ high] asked_wide

def encP (x : Prt) : List Value := [.int .u8 x.1, .string (bs x.2)]
def PartsPost (s : ByteArray) (w : World) (e : Ending) (w' : World) : Prop :=
  ∃ v, e = .returned v ∧ Own encP 2 w.heap.size 171 v (pts s.toList) w' ∧ Below w.heap.size w w'

set_option maxHeartbeats 1000000 in
theorem partsv_in (n : Nat) (s : ByteArray) (w : World) :
    CallsIn Fence.wide n Tryd.prog 131 #[.string s] w fun e w' => e = .returned (.func (.func 146) #[] #[.pointer (some ⟨w.heap.size, 0, none⟩)]) ∧ w' = w.alloc (.cells #[.string s] 9) := by
  refine callsIn_of_wp Tryd.func131 rfl trivial ?_ rfl
  simp only [Tryd.ntmps131, List.size_toArray, List.length_cons, List.length_nil, Nat.reduceAdd, Nat.reduceSub, Array.replicate_succ, Array.replicate_zero, List.push_toArray, List.append_toArray, List.nil_append, List.cons_append]
  gi_wp2
  go_ret
  exact ⟨rfl, rfl⟩
theorem kbox_t {Bs : Nat} {A B C : World} (h : KBox Bs A B) (k : KBox Bs B C) : KBox Bs A C := ⟨Eq.trans k.1 h.1, Nat.le_trans h.2 k.2⟩
theorem kbox_b {Bs : Nat} {w : World} (hn : Bs < w.heap.size) (W : World) (l : Nat) (o o' : Obj) (hl : w.heap.size ≤ l) (_ : W.heap[l]? = some o) (_ : o.isCells = false) (_ : o.isWalk = false) : KBox Bs W (W.putObj l o') :=
  ⟨World.cell?_of_block (World.putObj_heap_other (by simp; omega)), (grownBy_putObj' W l o').size⟩

theorem parts_stops (n : Nat) (Bs : Nat) (s : ByteArray) (hs : s.size ≤ 9223372036854775807) (w : World) (hB : Bs < w.heap.size) (hc : w.cell? ⟨Bs, 0, none⟩ = some (.string s)) :
    SeqStopsK Fence.wide n Tryd.prog 146 #[.pointer (some ⟨Bs, 0, none⟩)] prtArgs (KBox Bs) (fun ys => ys = pts s.toList) (fun pre => pre <+: pts s.toList) (pts s.toList).length w :=
  fun l J Jx W hW hJ _ hY h0 => parts1_in n l Bs s hs J Jx hY W ((hW.cell (p := ⟨Bs, 0, none⟩) hB).trans hc) (by have := hW.size; omega) hJ h0

theorem infoPart : (Tryd.prog.info? 171).map (fun i => (i.zero, i.size, i.bytes)) = some (some (.agg #[.int .u8 0, .string ByteArray.empty]), 2, 24) := by kernel_rfl

/-- what holds between two rounds of the loop in vercmp.Parts -/
def PI (w : World) (pre : List Prt) (W : World) : Prop :=
  ∃ v, Boxed W w.heap.size 168 v ∧ W.ownsRow w.heap.size 171 2 v pre.length (pre.flatMap encP) ∧ True
def PIs (w : World) (s : ByteArray) (pre : List Prt) (W : World) : Prop := PI w pre W ∧ Boxed W (w.heap.size + 1) 9 (.string s) ∧ Below w.heap.size w W
def PX (_ : Code) (_ : List Prt) (_ : World) : Prop := False
theorem PX_own (c : Code) {B : Nat} : OwnFrom B (PX c) := fun _ _ _ _ h _ _ => h
/-- the block of the loop's own variable -/
def PBox (x : Prt) (b : Nat) (W : World) : Prop := W.heap[b]? = some (.cells #[.int .u8 x.1, .string (bs x.2)] 171 (0, 0))
theorem pbox_0 {x : Prt} {b : Nat} {W : World} (h : PBox x b W) : W.cell? ⟨b, 0, none⟩ = some (.int .u8 x.1) := by simp [World.cell?, show W.heap[b]? = _ from h]
theorem pbox_1 {x : Prt} {b : Nat} {W : World} (h : PBox x b W) : W.cell? ⟨b, 1, none⟩ = some (.string (bs x.2)) := by simp [World.cell?, show W.heap[b]? = _ from h]
theorem pbox_own (B : Nat) (x : Prt) (a' : Act) (f : Nat → Act) : OwnFrom B (fun (_ : Unit) W => ∃ b, a' = f b ∧ PBox x b W) := by
  rintro _ X Y row ⟨b, e, hb⟩ hg hrow
  refine ⟨b, e, (hg.block b (Array.getElem?_eq_some_iff.1 hb).1 (fun e2 => ?_)).trans hb⟩
  obtain ⟨_, o, ho, hc⟩ := hrow b e2.symm
  rw [show X.heap[b]? = _ from hb] at ho
  cases ho
  cases hc
theorem PIs_own (w : World) (s : ByteArray) {B : Nat} (hB : w.heap.size ≤ B) : OwnFrom B (PIs w s) :=
  OwnFrom.and (Own.from (holdsRow_own _ _ _ _ _ _ _ _) _) (OwnFrom.and (Own.from (boxed_own _ _ _) _) (ownFrom_below (Nat.le_refl _) hB))

set_option maxRecDepth 100000 in
set_option maxHeartbeats 2000000 in
theorem parts_in (s : ByteArray) (w : World) (hs : s.size ≤ 9223372036854775807) (hl : s.size ≤ 1000000000000) : CallsIn Fence.wide 6 Tryd.prog 119 #[.string s] w (PartsPost s w) := by
  obtain ⟨i0, hi, hz0, hz1, hz2⟩ := info_parts infoPart
  refine callsIn_of_wp_marks Tryd.func119 rfl trivial ?_ rfl
  simp only [Tryd.ntmps119, List.size_toArray, List.length_cons, List.length_nil, Nat.reduceAdd, Nat.reduceSub, Array.replicate_succ, Array.replicate_zero, List.push_toArray, List.append_toArray, List.nil_append, List.cons_append]
  gi_wp2_with (refine ⟨trivial, ?_⟩; gi_at_call 131; refine (partsv_in _ _ _).mono ?_; rintro e w' ⟨rfl, rfl⟩)
  have b0 := Boxed.new w 168 (.slice none 0 0)
  have b1 := Boxed.new (w.alloc (.cells #[.slice none 0 0] 168)) 9 (.string s)
  simp only [World.size_alloc] at b1
  have hB0 : Below w.heap.size w ((w.alloc (.cells #[.slice none 0 0] 168)).alloc (.cells #[.string s] 9)) :=
    ((Below.refl _ _).alloc (Nat.le_refl _) _).alloc (by simp) _
  refine wpIn_rangeFunc_ownH rfl (by decide) (gf := 146) (lb := #[.pointer (some ⟨w.heap.size + 1, 0, none⟩)]) rfl trivial (enters_of Tryd.func146 (by kernel_rfl) rfl)
    (parts_stops 5 (w.heap.size + 1) s (by omega) _ (by simp) b1.cell) kbox_t (kbox_b (by simp)) (Below.refl _ _) (fun _ => rfl)
    (PIs w s) PX (PIs_own w s (by simp; omega)) (fun c => PX_own c)
    ⟨⟨_, b0.alloc _, World.ownsRow_nil _ _ _ _, trivial⟩, b1, hB0⟩
    (fun x a' W => ∃ b, a' = { tmps := #[.string s, undef, .slice none 0 0, .pointer (some ⟨w.heap.size, 0, none⟩), .pointer (some ⟨b, 0, none⟩), .string s, .func (.func 146) #[] #[.pointer (some ⟨w.heap.size + 1, 0, none⟩)], .agg #[.int .u8 x.1, .string (bs x.2)], undef, undef, undef, undef, undef], defers := [] } ∧ PBox x b W)
    (fun x a' => pbox_own _ x a' _) ?assign ?body ?done ?stop
  case assign =>
    rintro l pre x W K ⟨⟨v, hv, hrow, _⟩, hp1, hB⟩ hK
    unfold prtArgs
    gi_wp2
    refine hK _ _ ((KeepsOthers.alloc _ _).from _) ⟨World.cell?_alloc_lt _ _ ⟨w.heap.size + 1, 0, none⟩ hp1.lt, by simp⟩ ⟨⟨v, hv.alloc _, World.ownsRow.alloc hrow _, trivial⟩, hp1.alloc _, hB.alloc hB.size _⟩ ⟨W.heap.size, rfl, World.alloc_heap_new _ _⟩
  case body =>
    rintro l pre x a' W hl0 hl1 ⟨⟨v, hv, hrow, _⟩, hp1, hB⟩ ⟨b, rfl, hb⟩ hlt
    have hN := pts_len s.toList
    rw [size_toList] at hN
    have hc := hv.cell
    have hf := hv.frozen
    have hx0 := pbox_0 hb
    have hx1 := pbox_1 hb
    obtain ⟨k, t⟩ := x
    dsimp only at hx0 hx1 ⊢
    gi_wp2_with (gi_at_builtin; refine wpListIn_append_own _ rfl _ _ 168 rfl w.heap.size 171 i0 (.agg #[.int .u8 0, .string ByteArray.empty]) 2 24 Tryd.underlying168 hi hz0 hz1 hz2 rfl (by decide) _ _ _ rfl (hrow.alloc _) ⟨W.heap.size, 0, none⟩ 1 1 [.int .u8 k, .string (bs t)] rfl rfl (cell_two_new _ _ _ _) (by simp [Value.oneCell']) (by simp only [maxLen]; omega) (by omega) (by have := hB.size; simp; omega) ?_; intro v' w1 hown' hgrow _; obtain ⟨g', cap', rfl⟩ := ownsRow_succ hown'; obtain ⟨hv1, hv2, hr2, hk2, hb2⟩ := hv.appended (by decide) hrow hB.size (Nat.le_refl _) hown' hgrow; have hc1 := hv1.cell; have hf1 := hv1.frozen)
    have h3 : Boxed (w1.setCell ⟨w.heap.size, 0, none⟩ (.slice (some ⟨g', 0, none⟩) (pre.length + 1) cap')) (w.heap.size + 1) 9 (.string s) := ((hp1.alloc _).kept hgrow (hp1.not_row (by decide) hrow)).other (by omega) _
    refine ⟨hk2.from _, ⟨h3.cell.trans hp1.cell.symm, hk2.size⟩, ⟨_, hv2, ?_, trivial⟩, h3, hB.trans hb2⟩
    simpa [encP] using hr2
  case done =>
    rintro D ys W hD rfl ⟨⟨v, hv, hrow, _⟩, hp1, hB⟩ hK
    obtain ⟨A, c, rfl⟩ := own_shape hrow
    have hc := hv.cell
    have hf := hv.frozen
    gi_wp2
    have hDw : w.heap.size + 2 ≤ D := by simp at hD; omega
    refine ⟨by simp, .inl ⟨_, _, rfl, run_takeDeferred hK, ?_⟩⟩
    exact ⟨.slice A (pts s.toList).length c, by simp [results, Tryd.results119, go_sem], _, rfl, ownsRow_putObj hrow _ hK rfl, hB.trans (belowK_b (w := w) (Nat.le_refl _) W D _ _ (by omega) hK rfl rfl)⟩
  case stop =>
    rintro D c pre W hD hpre h hK
    exact h.elim

/-- THE PARTS: a row of the call's own. -/
theorem parts_any (s : ByteArray) (w : World) (hs : s.size ≤ 1000000000000) : Calls Tryd.prog 119 #[.string s] w fun e w' =>
    ∃ v, e = .returned v ∧ Own encP 2 w.heap.size 171 v (pts s.toList) w' ∧ Below w.heap.size w w' := callsIn_wide.1 (parts_in s w (by omega) hs)

/- Walks: how two parts compare, and how two versions do. -/

def or3 (a b c : Int) : Int := if a ≠ 0 then a else if b ≠ 0 then b else c
set_option maxHeartbeats 1000000 in
theorem or_any (a b c : Int) (g : Nat) (w : World) (h0 : w.cell? ⟨g, 0, none⟩ = some (.int .i64 a)) (h1 : w.cell? ⟨g, 1, none⟩ = some (.int .i64 b)) (h2 : w.cell? ⟨g, 2, none⟩ = some (.int .i64 c)) :
    Calls Tryd.prog 132 #[.slice (some ⟨g, 0, none⟩) 3 3] w fun e w' => e = .returned (.int .i64 (or3 a b c)) ∧ w = w' := by
  go_enter Tryd.func132, Tryd.ntmps132
  go_wp2
  go_loop [8] (fun e => ∃ k : Nat, k ≤ 3 ∧ e = .int .i64 (k : Int) ∧ (1 ≤ k → a = 0) ∧ (2 ≤ k → b = 0) ∧ (3 ≤ k → c = 0)) (fun e => 3 - (intOf e).toNat)
  case atStart => exact ⟨0, by omega, rfl, fun h => absurd h (by decide), fun h => absurd h (by decide), fun h => absurd h (by decide)⟩
  case round =>
    obtain ⟨k, hk, rfl, e0, e1, e2⟩ := hrel
    rcases (show k = 0 ∨ k = 1 ∨ k = 2 ∨ k = 3 by omega) with rfl | rfl | rfl | rfl
    · by_cases ha : a = 0
      · subst ha
        go_wp2
        go_round
        case rel => exact ⟨1, by omega, by go_num, fun _ => trivial, fun h => absurd h (by decide), fun h => absurd h (by decide)⟩
        case measure => simp [intOf]
      · go_wp2
        go_ret
        exact ⟨by simp [or3, ha], rfl⟩
    · obtain rfl := e0 (by omega)
      by_cases hb : b = 0
      · subst hb
        go_wp2
        go_round
        case rel => exact ⟨2, by omega, by go_num, fun _ => trivial, fun _ => trivial, fun h => absurd h (by decide)⟩
        case measure => simp [intOf]
      · go_wp2
        go_ret
        exact ⟨by simp [or3, hb], rfl⟩
    · obtain rfl := e0 (by omega)
      obtain rfl := e1 (by omega)
      by_cases hb : c = 0
      · subst hb
        go_wp2
        go_round
        case rel => exact ⟨3, by omega, by go_num, fun _ => trivial, fun _ => trivial, fun _ => trivial⟩
        case measure => simp [intOf]
      · go_wp2
        go_ret
        exact ⟨by simp [or3], rfl⟩
    · obtain rfl := e0 (by omega)
      obtain rfl := e1 (by omega)
      obtain rfl := e2 (by omega)
      go_wp2
      go_ret
      exact ⟨by simp [or3], rfl⟩
theorem cmpP_both {a b : Prt} (ha : a.1 = 5) (hb : b.1 = 5) : cmpP a b = or3 (cmpI a.1 b.1) (cmpI a.2.length b.2.length) (cmpL a.2 b.2) := by
  unfold cmpP or3; simp only [ha, hb, true_and]
theorem cmpP_not {a b : Prt} (h : ¬ (a.1 = 5 ∧ b.1 = 5)) : cmpP a b = or3 (cmpI a.1 b.1) 0 (cmpL a.2 b.2) := by
  unfold cmpP or3
  by_cases h1 : cmpI a.1 b.1 ≠ 0
  · rw [if_pos h1, if_pos h1]
  · rw [if_neg h1, if_neg h1, if_neg (fun h2 => h ⟨h2.1, h2.2.1⟩)]; simp
theorem new3 (w : World) (a b c : Int) : let A := w.alloc (.cells #[.int .i64 a, .int .i64 b, .int .i64 c] 3)
    A.cell? ⟨w.heap.size, 0, none⟩ = some (.int .i64 a) ∧ A.cell? ⟨w.heap.size, 1, none⟩ = some (.int .i64 b) ∧ A.cell? ⟨w.heap.size, 2, none⟩ = some (.int .i64 c) :=
  ⟨(World.cell?_alloc_at _ _ _ _ rfl).trans rfl, (World.cell?_alloc_at _ _ _ _ rfl).trans rfl, (World.cell?_alloc_at _ _ _ _ rfl).trans rfl⟩

theorem boxes2 (w : World) (ka kb : Int) (ta tb : Bytes) : let A := (w.alloc (.cells #[.int .u8 ka, .string (bs ta)] 171)).alloc (.cells #[.int .u8 kb, .string (bs tb)] 171)
    A.cell? ⟨w.heap.size, 0, none⟩ = some (.int .u8 ka) ∧ A.cell? ⟨w.heap.size, 1, none⟩ = some (.string (bs ta)) ∧ A.cell? ⟨w.heap.size + 1, 0, none⟩ = some (.int .u8 kb) ∧ A.cell? ⟨w.heap.size + 1, 1, none⟩ = some (.string (bs tb)) ∧ Below w.heap.size w A :=
  ⟨(World.cell?_alloc_past _ _ _ (by simp)).trans ((World.cell?_alloc_at _ _ _ _ rfl).trans rfl), (World.cell?_alloc_past _ _ _ (by simp)).trans ((World.cell?_alloc_at _ _ _ _ rfl).trans rfl),
   (World.cell?_alloc_at _ _ _ _ (by simp)).trans rfl, (World.cell?_alloc_at _ _ _ _ (by simp)).trans rfl, ((Below.refl _ _).alloc (Nat.le_refl _) _).alloc (by simp) _⟩
set_option maxRecDepth 100000 in
set_option maxHeartbeats 2000000 in
theorem compare_any (a b : Prt) (w : World) : Calls Tryd.prog 120 #[.agg #[.int .u8 a.1, .string (bs a.2)], .agg #[.int .u8 b.1, .string (bs b.2)]] w fun e w' => e = .returned (.int .i64 (cmpP a b)) ∧ Below w.heap.size w w' := by
  obtain ⟨ka, ta⟩ := a
  obtain ⟨kb, tb⟩ := b
  dsimp only
  go_enter Tryd.func120, Tryd.ntmps120
  by_cases ha : ka = 5
  · subst ha
    by_cases hb : kb = 5
    · subst hb
      have q := boxes2 w (5) (5) ta tb
      go_wp2_with (go_at_call 110; refine (cmp_int _ _ _).mono ?_; rintro e w' ⟨rfl, rfl⟩)
      generalize (w.alloc (.cells #[.int .u8 (5), .string (bs ta)] 171)).alloc (.cells #[.int .u8 (5), .string (bs tb)] 171) = W at *
      obtain ⟨q0, q1, q2, q3, hB⟩ := q
      have c0 : World.cell? { W with drawn := W.drawn + 1 } ⟨w.heap.size, 0, none⟩ = some (.int .u8 (5)) := q0
      have c1 : World.cell? { W with drawn := W.drawn + 1 } ⟨w.heap.size, 1, none⟩ = some (.string (bs ta)) := q1
      have c2 : World.cell? { W with drawn := W.drawn + 1 } ⟨w.heap.size + 1, 0, none⟩ = some (.int .u8 (5)) := q2
      have c3 : World.cell? { W with drawn := W.drawn + 1 } ⟨w.heap.size + 1, 1, none⟩ = some (.string (bs tb)) := q3
      refine wp_region_still_tail 11 (by kernel_rfl) (by kernel_rfl) ?_
      simp only [List.take_succ_cons, List.take_zero, List.drop_succ_cons, List.drop_zero]
      repeat still_step
      still_call ((cmp_u8 _ _ _).mono fun _ _ h => ⟨h.1, h.2.symm⟩)
      repeat still_step
      still_call ((cmp_str _ _ _).mono fun _ _ h => ⟨h.1, h.2.symm⟩)
      refine wpStill_nil ?_
      change wpList _ _ _ _ _ W.drew
      have hD : Below w.heap.size w W.drew := hB.drew
      clear q0 q1 q2 q3 c0 c1 c2 c3 hB
      generalize W.drew = W2 at *
      go_wp2_with (go_at_call 132; refine (or_any _ _ _ _ _ (new3 _ _ _ _).1 (new3 _ _ _ _).2.1 (new3 _ _ _ _).2.2).mono ?_; rintro e w' ⟨rfl, rfl⟩)
      go_ret
      refine ⟨ret_int ?_, hD.alloc hD.size _⟩
      rw [cmpP_both rfl rfl, bs_toList, bs_toList, bs_size, bs_size]
    · have hb0 : (kb == 5) = false := by simpa using hb
      have q := boxes2 w (5) (kb) ta tb
      go_wp2_with (go_at_call 110; refine (cmp_int _ _ _).mono ?_; rintro e w' ⟨rfl, rfl⟩)
      generalize (w.alloc (.cells #[.int .u8 (5), .string (bs ta)] 171)).alloc (.cells #[.int .u8 (kb), .string (bs tb)] 171) = W at *
      obtain ⟨q0, q1, q2, q3, hB⟩ := q
      have c0 : World.cell? { W with drawn := W.drawn + 1 } ⟨w.heap.size, 0, none⟩ = some (.int .u8 (5)) := q0
      have c1 : World.cell? { W with drawn := W.drawn + 1 } ⟨w.heap.size, 1, none⟩ = some (.string (bs ta)) := q1
      have c2 : World.cell? { W with drawn := W.drawn + 1 } ⟨w.heap.size + 1, 0, none⟩ = some (.int .u8 (kb)) := q2
      have c3 : World.cell? { W with drawn := W.drawn + 1 } ⟨w.heap.size + 1, 1, none⟩ = some (.string (bs tb)) := q3
      refine wp_region_still_tail 11 (by kernel_rfl) (by kernel_rfl) ?_
      simp only [List.take_succ_cons, List.take_zero, List.drop_succ_cons, List.drop_zero]
      repeat still_step
      still_call ((cmp_u8 _ _ _).mono fun _ _ h => ⟨h.1, h.2.symm⟩)
      repeat still_step
      still_call ((cmp_str _ _ _).mono fun _ _ h => ⟨h.1, h.2.symm⟩)
      refine wpStill_nil ?_
      change wpList _ _ _ _ _ W.drew
      have hD : Below w.heap.size w W.drew := hB.drew
      clear q0 q1 q2 q3 c0 c1 c2 c3 hB
      generalize W.drew = W2 at *
      go_wp2_with (go_at_call 132; refine (or_any _ _ _ _ _ (new3 _ _ _ _).1 (new3 _ _ _ _).2.1 (new3 _ _ _ _).2.2).mono ?_; rintro e w' ⟨rfl, rfl⟩)
      go_ret
      refine ⟨ret_int ?_, hD.alloc hD.size _⟩
      rw [cmpP_not (by simp [*]), bs_toList, bs_toList]
  · have ha0 : (ka == 5) = false := by simpa using ha
    have q := boxes2 w (ka) (kb) ta tb
    go_wp2_with (go_at_call 110; refine (cmp_int _ _ _).mono ?_; rintro e w' ⟨rfl, rfl⟩)
    generalize (w.alloc (.cells #[.int .u8 (ka), .string (bs ta)] 171)).alloc (.cells #[.int .u8 (kb), .string (bs tb)] 171) = W at *
    obtain ⟨q0, q1, q2, q3, hB⟩ := q
    have c0 : World.cell? { W with drawn := W.drawn + 1 } ⟨w.heap.size, 0, none⟩ = some (.int .u8 (ka)) := q0
    have c1 : World.cell? { W with drawn := W.drawn + 1 } ⟨w.heap.size, 1, none⟩ = some (.string (bs ta)) := q1
    have c2 : World.cell? { W with drawn := W.drawn + 1 } ⟨w.heap.size + 1, 0, none⟩ = some (.int .u8 (kb)) := q2
    have c3 : World.cell? { W with drawn := W.drawn + 1 } ⟨w.heap.size + 1, 1, none⟩ = some (.string (bs tb)) := q3
    refine wp_region_still_tail 11 (by kernel_rfl) (by kernel_rfl) ?_
    simp only [List.take_succ_cons, List.take_zero, List.drop_succ_cons, List.drop_zero]
    repeat still_step
    still_call ((cmp_u8 _ _ _).mono fun _ _ h => ⟨h.1, h.2.symm⟩)
    repeat still_step
    still_call ((cmp_str _ _ _).mono fun _ _ h => ⟨h.1, h.2.symm⟩)
    refine wpStill_nil ?_
    change wpList _ _ _ _ _ W.drew
    have hD : Below w.heap.size w W.drew := hB.drew
    clear q0 q1 q2 q3 c0 c1 c2 c3 hB
    generalize W.drew = W2 at *
    go_wp2_with (go_at_call 132; refine (or_any _ _ _ _ _ (new3 _ _ _ _).1 (new3 _ _ _ _).2.1 (new3 _ _ _ _).2.2).mono ?_; rintro e w' ⟨rfl, rfl⟩)
    go_ret
    refine ⟨ret_int ?_, hD.alloc hD.size _⟩
    rw [cmpP_not (by simp [*]), bs_toList, bs_toList]

/- Walks: how two versions compare. -/

def fin : Prt := (2, [])
/-- two rows of parts compared, part by part -/
def cmpV : List Prt → List Prt → Int
  | a :: l, b :: m => if cmpP a b ≠ 0 then cmpP a b else cmpV l m
  | _, _ => 0
/-- HOW TWO VERSIONS COMPARE -/
def comp (a b : Bytes) : Int := cmpV (pts a ++ [fin]) (pts b ++ [fin])
theorem cmpV_at {l m : List Prt} {k : Nat} (hl : k < l.length) (hm : k < m.length) : cmpV (l.drop k) (m.drop k) = if cmpP l[k] m[k] ≠ 0 then cmpP l[k] m[k] else cmpV (l.drop (k + 1)) (m.drop (k + 1)) := by
  rw [List.drop_eq_getElem_cons hl, List.drop_eq_getElem_cons hm]; rfl
theorem cmpV_end {l m : List Prt} {k : Nat} (h : l.length ≤ k ∨ m.length ≤ k) : cmpV (l.drop k) (m.drop k) = 0 := by
  rcases h with h | h
  · rw [List.drop_of_length_le h]; rfl
  · rw [List.drop_of_length_le h]; cases l.drop k <;> rfl
theorem fin_enc : encP fin = [.int .u8 2, .string ⟨#[]⟩] := rfl

set_option maxRecDepth 100000 in
set_option maxHeartbeats 2000000 in
theorem comp_any (a b : ByteArray) (w : World) (ha : a.size ≤ 1000000) (hb : b.size ≤ 1000000) : Calls Tryd.prog 112 #[.string a, .string b] w fun e w' => e = .returned (.int .i64 (comp a.toList b.toList)) ∧ Below w.heap.size w w' := by
  obtain ⟨i0, hi, hz0, hz1, hz2⟩ := info_parts infoPart
  have na := pts_len a.toList
  have nb := pts_len b.toList
  rw [size_toList] at na nb
  have hcomp := Lib.hid (show comp a.toList b.toList = cmpV (pts a.toList ++ [fin]) (pts b.toList ++ [fin]) from rfl)
  have PB := Lib.hid (fun W => parts_any b W (by omega))
  have PC := Lib.hid (fun p q W => compare_any p q W)
  go_enter Tryd.func112, Tryd.ntmps112
  go_wp2_with fail
  go_at_call 119
  refine (parts_any a w (by omega)).mono ?_
  rintro e w1 ⟨v, rfl, hv, hb1⟩
  generalize pts a.toList = la at *
  generalize pts b.toList = lb at *
  have hs1 := hb1.size
  go_wp2_with (at_builtin; refine wpList_append_own _ rfl _ _ 168 rfl w.heap.size 171 i0 (.agg #[.int .u8 0, .string ByteArray.empty]) 2 24 Tryd.underlying168 hi hz0 hz1 hz2 rfl (by decide) _ _ _ rfl (World.ownsRow.alloc hv _) ⟨w1.heap.size, 0, none⟩ 1 1 [.int .u8 2, .string ⟨#[]⟩] rfl rfl (cell_two_new _ _ _ _) (by simp [Value.oneCell']) (by simp only [maxLen]; omega) (by omega) (by simp; omega) ?_; intro va w2 hown hgrow _)
  have hB2 : Below w.heap.size w w2 := (hb1.alloc hs1 _).grown hgrow (by simp; omega) (fun k e => (World.ownsRow.lt hv k e).1)
  have hA : Own encP 2 w.heap.size 171 va (la ++ [fin]) w2 := Own.snoc hown
  obtain ⟨A, ca, rfl, hrdA⟩ := hA.rd (fun _ => rfl)
  clear hown hgrow hA hv hb1 hs1
  go_at_call 119
  refine (PB.out w2).mono ?_
  rintro e w3 ⟨v3, rfl, hv3, hb3⟩
  have hs3 := hb3.size
  have hs2 := hB2.size
  go_wp2_with (at_builtin; refine wpList_append_own _ rfl _ _ 168 rfl w2.heap.size 171 i0 (.agg #[.int .u8 0, .string ByteArray.empty]) 2 24 Tryd.underlying168 hi hz0 hz1 hz2 rfl (by decide) _ _ _ rfl (World.ownsRow.alloc hv3 _) ⟨w3.heap.size, 0, none⟩ 1 1 [.int .u8 2, .string ⟨#[]⟩] rfl rfl (cell_two_new _ _ _ _) (by simp [Value.oneCell']) (by simp only [maxLen]; omega) (by omega) (by simp; omega) ?_; intro vb w4 hown hgrow _; have hB4 : Below w2.heap.size w2 w4 := (hb3.alloc hs3 _).grown hgrow (by simp; omega) (fun k e => (World.ownsRow.lt hv3 k e).1); obtain ⟨Bm, cb, rfl, hrdB⟩ := Own.rd (l := lb ++ [fin]) (Own.snoc (x := fin) hown) (fun _ => rfl); clear hown hgrow hv3 hb3 hs3)
  all_goals
    have hrA := hrdA.withB hB4
    clear hrdA
    have hBw : Below w.heap.size w w4 := hB2.trans (hB4.mono hs2)
    have lA : (la ++ [fin]).length = la.length + 1 := by simp
    have lB : (lb ++ [fin]).length = lb.length + 1 := by simp
    clear hB2 hB4 PB
    generalize la ++ [fin] = L at *
    generalize lb ++ [fin] = M at *
    go_loopw [24] (fun i wr => ∃ k : Nat, k ≤ la.length + 1 ∧ k ≤ lb.length + 1 ∧ i = .int .i64 (k : Int) ∧ RowKit.Hid (cmpV L M = cmpV (L.drop k) (M.drop k)) ∧ Below w4.heap.size w4 wr) (fun i _ => la.length + 1 - (intOf i).toNat)
    case atStart => exact ⟨0, by omega, by omega, rfl, Lib.hid rfl, Below.refl _ _⟩
    case round =>
      obtain ⟨k, hk1, hk2, rfl, hc, hB⟩ := hrel
      by_cases hlt : k < la.length + 1 ∧ k < lb.length + 1
      · obtain ⟨h1, h2⟩ := hlt
        have kA : k < L.length := by omega
        have kB : k < M.length := by omega
        have H := Lib.hid (cmpV_at kA kB)
        obtain ⟨b1, o1, rfl, hb1, x0, x1⟩ := (hrA.below hB).at2 (f := fun p : Prt => .int .u8 p.1) (g := fun p : Prt => .string (bs p.2)) (fun _ => rfl) kA
        obtain ⟨b2, o2, rfl, hb2, y0, y1⟩ := (hrdB.below hB).at2 (f := fun p : Prt => .int .u8 p.1) (g := fun p : Prt => .string (bs p.2)) (fun _ => rfl) kB

        generalize L[k] = p at *
        generalize M[k] = q at *
        have x0' : World.cell? { wr with drawn := wr.drawn + 1 } ⟨b1, o1 + k * 2, none⟩ = some (.int .u8 p.1) := x0
        have x1' : World.cell? { wr with drawn := wr.drawn + 1 } ⟨b1, o1 + k * 2 + 1, none⟩ = some (.string (bs p.2)) := x1
        have y0' : World.cell? { wr with drawn := wr.drawn + 1 } ⟨b2, o2 + k * 2, none⟩ = some (.int .u8 q.1) := y0
        have y1' : World.cell? { wr with drawn := wr.drawn + 1 } ⟨b2, o2 + k * 2 + 1, none⟩ = some (.string (bs q.2)) := y1
        have i0 : (0 : Int) ≤ (k : Int) := by omega
        have i1 : (k : Int) < (la.length : Int) + 1 := by omega
        have i2 : (k : Int) < (lb.length : Int) + 1 := by omega
        go_wp2_with fail
        refine wp_region_still_tail 8 (by kernel_rfl) (by kernel_rfl) ?_
        simp only [List.take_succ_cons, List.take_zero, List.drop_succ_cons, List.drop_zero]
        repeat still_step
        refine wpStill_nil ?_
        change wpList _ _ _ _ _ wr.drew
        have hD : Below w4.heap.size w4 wr.drew := hB.drew
        clear x0 x1 y0 y1 x0' x1' y0' y1' hB
        generalize wr.drew = w5 at *
        go_wp2_with fail
        go_at_call 120
        refine (PC.out p q w5).mono ?_
        rintro e w6 ⟨rfl, hb6⟩
        have hB6 : Below w4.heap.size w4 w6 := hD.trans (hb6.mono hD.size)
        by_cases hz : cmpP p q = 0
        · have H2 := Lib.hid (show cmpV L M = cmpV (L.drop (k + 1)) (M.drop (k + 1)) by rw [hc, H.out, hz]; rfl)
          clear H
          go_wp2
          go_roundw
          case rel => exact ⟨k + 1, by omega, by omega, by go_num, H2, hB6⟩
          case measure => simp [intOf]; omega
        · have H2 := Lib.hid (show cmpP p q = comp a.toList b.toList by rw [hcomp.out, hc, H.out, if_pos hz])
          clear H
          go_wp2
          go_ret
          exact ⟨ret_int H2.out, hBw.trans (hB6.mono hBw.size)⟩
      · have H2 := Lib.hid (show (0 : Int) = comp a.toList b.toList by rw [hcomp.out, hc, cmpV_end (by omega)])
        have hkk : k = la.length + 1 ∨ k = lb.length + 1 := by omega
        go_wp2
        go_ret
        exact ⟨ret_int H2.out, hBw.trans (hB.mono hBw.size)⟩

/- Walks: the document's answer for vercmp. -/

/-- of what stands at k on, the next m bytes are of the run, and what is of it behind these is of it all -/
def Up (p : UInt8 → Bool) (s : ByteArray) (k m : Nat) : Prop := (s.toList.drop k).takeWhile p = (s.toList.drop k).take m ++ (s.toList.drop (k + m)).takeWhile p
def Dn (p : UInt8 → Bool) (s : ByteArray) (k m : Nat) : Prop := (s.toList.drop k).takeWhile p = (s.toList.drop k).take m
theorem Up.next {p : UInt8 → Bool} {s : ByteArray} {k m : Nat} (h : Up p s k m) (hlt : k + m < s.size) : (p s[k + m] = true → Up p s k (m + 1)) ∧ (p s[k + m] = false → Dn p s k m) := by
  unfold Up at h
  rw [toList_drop s (k + m) hlt] at h
  constructor
  · intro g
    unfold Up
    rw [List.takeWhile_cons_of_pos g] at h
    rw [h, take_snoc _ m (by rw [List.length_drop, size_toList]; omega)]
    rw [List.getElem_drop, toList_get s (k + m) hlt, List.append_assoc, List.singleton_append]; rfl
  · intro g
    rw [List.takeWhile_cons_of_neg (by simp [g]), List.append_nil] at h
    exact h
theorem Up.last {p : UInt8 → Bool} {s : ByteArray} {k m : Nat} (h : Up p s k m) (hm : k + m = s.size) : Dn p s k m := by
  unfold Up at h
  rw [List.drop_of_length_le (i := k + m) (by rw [size_toList]; omega)] at h
  simpa [Dn] using h
theorem Dn.rest {p : UInt8 → Bool} {s : ByteArray} {k m : Nat} (h : Dn p s k m) (hm : k + m ≤ s.size) : (s.toList.drop k).dropWhile p = s.toList.drop (k + m) := by
  have h1 := List.takeWhile_append_dropWhile (p := p) (l := s.toList.drop k)
  have h2 : (s.toList.drop k).dropWhile p = (s.toList.drop k).drop ((s.toList.drop k).takeWhile p).length := by
    have h3 : ∀ (a b c : Bytes), a ++ b = c → b = c.drop a.length := by
      intro a b c e
      rw [← e, List.drop_left]
    exact h3 _ _ _ h1
  rw [h2, h, List.length_take, List.length_drop, size_toList, List.drop_drop, Nat.min_eq_left (by omega)]
theorem like_self (c : UInt8) : like c c = true := by simp [like]
theorem pts_run_at {s : ByteArray} {k m : Nat} (hlt : k < s.size) (h4 : 4 ≤ kk s[k]) (h : Dn (like s[k]) s k m) (hm : k + m ≤ s.size) : pts (s.toList.drop k) = strip (kk s[k], (s.toList.drop k).take m) :: pts (s.toList.drop (k + m)) := by
  have hr := h.rest hm
  unfold Dn at h
  rw [toList_drop s k hlt] at h hr ⊢
  rw [pts_run _ h4, ← h, ← hr]
  simp [like_self]
theorem zcut_on {s : ByteArray} {k m j : Nat} (hj : j < k + m) (hm : k + m ≤ s.size) (hb : s[j] = 48) (h : zcut ((s.toList.drop k).take m) = zcut ((s.toList.drop j).take (k + m - j))) :
    zcut ((s.toList.drop k).take m) = zcut ((s.toList.drop (j + 1)).take (k + m - (j + 1))) := by
  rw [h, toList_drop s j (by omega), show k + m - j = (k + m - (j + 1)) + 1 by omega, List.take_succ_cons, hb]
  simp [zcut]
theorem zcut_off {s : ByteArray} {k m j : Nat} (hj : j < k + m) (hm : k + m ≤ s.size) (hb : ¬ s[j] = 48) (h : zcut ((s.toList.drop k).take m) = zcut ((s.toList.drop j).take (k + m - j))) :
    s.extract j (k + m) = bs (zcut ((s.toList.drop k).take m)) := by
  rw [h, bs_extract]
  congr 1
  rw [toList_drop s j (by omega), show k + m - j = (k + m - (j + 1)) + 1 by omega, List.take_succ_cons]
  have hb2 : (s[j] == 48) = false := by simpa using hb
  simp only [zcut, List.dropWhile_cons, hb2, Bool.false_eq_true, if_false]
theorem zcut_out {s : ByteArray} {k m : Nat} (h : zcut ((s.toList.drop k).take m) = zcut ((s.toList.drop (k + m)).take (k + m - (k + m)))) :
    s.extract (k + m) (k + m) = bs (zcut ((s.toList.drop k).take m)) := by
  rw [h, bs_extract, Nat.sub_self, List.take_zero]; rfl
theorem zcut_out0 {s : ByteArray} {k m : Nat} (h : zcut ((s.toList.drop k).take m) = zcut ((s.toList.drop (k + m)).take (k + m - (k + m)))) : zcut ((s.toList.drop k).take m) = [] := by
  rw [h, Nat.sub_self, List.take_zero]; rfl
theorem word_cut {s : ByteArray} {k m : Nat} : s.extract k (k + m) = bs ((s.toList.drop k).take m) := by
  rw [bs_extract, Nat.add_sub_cancel_left]
theorem run4 {s : ByteArray} {k m : Nat} (hlt : k < s.size) (g : kk s[k] = 4) (h : Dn (like s[k]) s k m) (hm : k + m ≤ s.size) : pts (s.toList.drop k) = (4, (s.toList.drop k).take m) :: pts (s.toList.drop (k + m)) := by
  rw [pts_run_at hlt (by omega) h hm]; simp [strip, g]
theorem run5 {s : ByteArray} {k m : Nat} (hlt : k < s.size) (g : kk s[k] = 5) (h : Dn (like s[k]) s k m) (hm : k + m ≤ s.size) : pts (s.toList.drop k) = (5, zcut ((s.toList.drop k).take m)) :: pts (s.toList.drop (k + m)) := by
  rw [pts_run_at hlt (by omega) h hm]; simp [strip, g, zcut]

/- Walks: how the document compares two versions: the same as the program does. -/

theorem bl_irrefl : ∀ a : Bytes, Op.bytesLess a a = false
  | [] => rfl
  | x :: a => by simp [Op.bytesLess, bl_irrefl a]
theorem bl_total : ∀ a b : Bytes, Op.bytesLess a b = false → Op.bytesLess b a = false → a = b
  | [], [], _, _ => rfl
  | [], _ :: _, h, _ => by simp [Op.bytesLess] at h
  | _ :: _, [], _, h => by simp [Op.bytesLess] at h
  | x :: a, y :: b, h1, h2 => by
    simp only [Op.bytesLess, Bool.or_eq_false_iff, decide_eq_false_iff_not, Bool.and_eq_false_iff, beq_eq_false_iff_ne, ne_eq] at h1 h2
    have e : x = y := by
      apply UInt8.toNat_inj.1
      have q1 := h1.1; have q2 := h2.1
      rw [UInt8.lt_iff_toNat_lt] at q1 q2
      omega
    subst e
    have r1 : Op.bytesLess a b = false := by rcases h1.2 with h | h; · exact absurd rfl h
                                             · simpa using h
    have r2 : Op.bytesLess b a = false := by rcases h2.2 with h | h; · exact absurd rfl h
                                             · simpa using h
    rw [bl_total a b r1 r2]
theorem bl_asymm : ∀ a b : Bytes, Op.bytesLess a b = true → Op.bytesLess b a = false
  | [], [], h => by simp [Op.bytesLess] at h
  | [], _ :: _, _ => by simp [Op.bytesLess]
  | _ :: _, [], h => by simp [Op.bytesLess] at h
  | x :: a, y :: b, h => by
    simp only [Op.bytesLess, Bool.or_eq_true, decide_eq_true_eq, Bool.and_eq_true, beq_iff_eq] at h
    simp only [Op.bytesLess, Bool.or_eq_false_iff, decide_eq_false_iff_not, Bool.and_eq_false_iff, beq_eq_false_iff_ne, ne_eq]
    rcases h with h | ⟨rfl, h⟩
    · rw [UInt8.lt_iff_toNat_lt] at h
      refine ⟨by rw [UInt8.lt_iff_toNat_lt]; omega, .inl (fun e => ?_)⟩
      subst e; omega
    · exact ⟨by rw [UInt8.lt_iff_toNat_lt]; omega, .inr (bl_asymm a b h)⟩
theorem bl_trans : ∀ a b c : Bytes, Op.bytesLess a b = true → Op.bytesLess b c = true → Op.bytesLess a c = true
  | _, [], _, h, _ => by cases ‹Bytes› <;> simp [Op.bytesLess] at h
  | _, _ :: _, [], _, h => by simp [Op.bytesLess] at h
  | [], _ :: _, _ :: _, _, _ => by simp [Op.bytesLess]
  | x :: a, y :: b, z :: c, h1, h2 => by
    simp only [Op.bytesLess, Bool.or_eq_true, decide_eq_true_eq, Bool.and_eq_true, beq_iff_eq] at h1 h2 ⊢
    simp only [UInt8.lt_iff_toNat_lt] at h1 h2 ⊢
    rcases h1 with h1 | ⟨rfl, h1⟩ <;> rcases h2 with h2 | ⟨rfl, h2⟩
    · exact .inl (by omega)
    · exact .inl h1
    · exact .inl h2
    · exact .inr ⟨rfl, bl_trans a b c h1 h2⟩

/-- is a part less than another one? -/
def lessP (a b : Prt) : Bool := cmpP a b == -1
theorem cmpI_cases (a b : Int) : (cmpI a b = -1 ∧ a < b) ∨ (cmpI a b = 0 ∧ a = b) ∨ (cmpI a b = 1 ∧ b < a) := by
  unfold cmpI
  by_cases h1 : a < b
  · left; simp [h1]
  by_cases h2 : b < a
  · right; right; simp [h1, h2]
  · right; left; simp [h1, h2]; omega
theorem cmpL_cases (a b : Bytes) : (cmpL a b = -1 ∧ Op.bytesLess a b = true) ∨ (cmpL a b = 0 ∧ a = b) ∨ (cmpL a b = 1 ∧ Op.bytesLess b a = true) := by
  unfold cmpL
  cases h1 : Op.bytesLess a b with
  | true => left; simp
  | false =>
    by_cases h2 : a = b
    · right; left; simp [h2]
    · right; right
      refine ⟨by simp [h2], ?_⟩
      cases h3 : Op.bytesLess b a with
      | true => rfl
      | false => exact absurd (bl_total a b h1 h3) h2
theorem lessP_kind {a b : Prt} (h : a.1 ≠ b.1) : lessP a b = decide (a.1 < b.1) := by
  unfold lessP cmpP
  rcases cmpI_cases a.1 b.1 with ⟨e, h2⟩ | ⟨e, h2⟩ | ⟨e, h2⟩
  · rw [e]; simp [h2]
  · exact absurd h2 h
  · rw [e]; simp; omega
theorem lessP_len {a b : Prt} (h : a.1 = b.1) (h5 : a.1 = 5) (hl : a.2.length ≠ b.2.length) : lessP a b = decide (a.2.length < b.2.length) := by
  unfold lessP cmpP
  rw [if_neg (by rw [h]; rcases cmpI_cases b.1 b.1 with ⟨e, h2⟩ | ⟨e, h2⟩ | ⟨e, h2⟩ <;> simp [e] <;> omega)]
  rcases cmpI_cases a.2.length b.2.length with ⟨e, h2⟩ | ⟨e, h2⟩ | ⟨e, h2⟩
  · rw [if_pos ⟨h5, h ▸ h5, by rw [e]; decide⟩, e]; simp; omega
  · exact absurd (by omega) hl
  · rw [if_pos ⟨h5, h ▸ h5, by rw [e]; decide⟩, e]; simp; omega
theorem lessP_str {a b : Prt} (h : a.1 = b.1) (hl : a.1 = 5 → a.2.length = b.2.length) : lessP a b = Op.bytesLess a.2 b.2 := by
  unfold lessP cmpP
  rw [if_neg (by rw [h]; rcases cmpI_cases b.1 b.1 with ⟨e, h2⟩ | ⟨e, h2⟩ | ⟨e, h2⟩ <;> simp [e] <;> omega)]
  rw [if_neg (by
    rintro ⟨h1, h2, h3⟩
    rcases cmpI_cases a.2.length b.2.length with ⟨e, h4⟩ | ⟨e, h4⟩ | ⟨e, h4⟩
    · have := hl h1; omega
    · exact h3 e
    · have := hl h1; omega)]
  rcases cmpL_cases a.2 b.2 with ⟨e, h4⟩ | ⟨e, h4⟩ | ⟨e, h4⟩
  · rw [e, h4]; rfl
  · rw [e, h4, bl_irrefl]; rfl
  · rw [e, bl_asymm _ _ h4]; rfl

def Bx2 (w : World) (ka kb : Int) (ta tb : Bytes) (A : World) : Prop :=
  A.cell? ⟨w.heap.size, 0, none⟩ = some (.int .u8 ka) ∧ A.cell? ⟨w.heap.size, 1, none⟩ = some (.string (bs ta)) ∧ A.cell? ⟨w.heap.size + 1, 0, none⟩ = some (.int .u8 kb) ∧ A.cell? ⟨w.heap.size + 1, 1, none⟩ = some (.string (bs tb)) ∧ Below w.heap.size w A
theorem Bx2.drewN {w : World} {ka kb : Int} {ta tb : Bytes} {A : World} (h : Bx2 w ka kb ta tb A) (n : Nat) : Bx2 w ka kb ta tb (A.drewN n) := ⟨h.1, h.2.1, h.2.2.1, h.2.2.2.1, h.2.2.2.2.trans ⟨rfl, rfl, rfl, Nat.le_refl _, fun _ _ => rfl⟩⟩
/-- a part of the row, or the end -/
def atP (l : List Prt) (i : Nat) : Prt := (l[i]?).getD fin
/- the order of parts -/
theorem cmpI_neg (a b : Int) : cmpI b a = - cmpI a b := by
  rcases cmpI_cases a b with ⟨e, h⟩ | ⟨e, h⟩ | ⟨e, h⟩ <;> rcases cmpI_cases b a with ⟨e2, h2⟩ | ⟨e2, h2⟩ | ⟨e2, h2⟩ <;> rw [e, e2] <;> first | rfl | (exfalso; omega)
theorem cmpL_neg (a b : Bytes) : cmpL b a = - cmpL a b := by
  rcases cmpL_cases a b with ⟨e, h⟩ | ⟨e, h⟩ | ⟨e, h⟩ <;> rcases cmpL_cases b a with ⟨e2, h2⟩ | ⟨e2, h2⟩ | ⟨e2, h2⟩ <;> rw [e, e2] <;> first | rfl | skip
  · rw [bl_asymm _ _ h] at h2; cases h2
  · rw [h2, bl_irrefl] at h; cases h
  · rw [h, bl_irrefl] at h2; cases h2
  · rw [h, bl_irrefl] at h2; cases h2
  · rw [h2, bl_irrefl] at h; cases h
  · rw [bl_asymm _ _ h] at h2; cases h2
theorem cmpP_or (a b : Prt) : cmpP a b = or3 (cmpI a.1 b.1) (if a.1 = 5 ∧ b.1 = 5 then cmpI a.2.length b.2.length else 0) (cmpL a.2 b.2) := by
  by_cases h : a.1 = 5 ∧ b.1 = 5
  · rw [cmpP_both h.1 h.2, if_pos h]
  · rw [cmpP_not h, if_neg h]
theorem or3_neg (a b c : Int) : or3 (-a) (-b) (-c) = - or3 a b c := by
  unfold or3
  by_cases h1 : a = 0 <;> by_cases h2 : b = 0 <;> simp [h1, h2]
theorem cmpP_neg (a b : Prt) : cmpP b a = - cmpP a b := by
  rw [cmpP_or, cmpP_or, ← or3_neg, cmpI_neg a.1 b.1, cmpL_neg a.2 b.2]
  congr 1
  by_cases h : a.1 = 5 ∧ b.1 = 5
  · rw [if_pos h, if_pos ⟨h.2, h.1⟩, cmpI_neg]
  · rw [if_neg h, if_neg (fun h2 => h ⟨h2.2, h2.1⟩)]; rfl
theorem or3_zero {a b c : Int} (h : or3 a b c = 0) : a = 0 ∧ c = 0 := by
  unfold or3 at h
  by_cases h1 : a = 0 <;> by_cases h2 : b = 0 <;> simp_all
theorem cmpP_zero {a b : Prt} (h : cmpP a b = 0) : a = b := by
  rw [cmpP_or] at h
  obtain ⟨h1, h2⟩ := or3_zero h
  have e1 : a.1 = b.1 := by rcases cmpI_cases a.1 b.1 with ⟨e, h3⟩ | ⟨e, h3⟩ | ⟨e, h3⟩ <;> simp_all
  have e2 : a.2 = b.2 := by rcases cmpL_cases a.2 b.2 with ⟨e, h3⟩ | ⟨e, h3⟩ | ⟨e, h3⟩ <;> simp_all
  exact Prod.ext e1 e2
theorem cmpP_self (a : Prt) : cmpP a a = 0 := by
  have := cmpP_neg a a; omega
theorem or3_cases {a b c : Int} (ha : a = -1 ∨ a = 0 ∨ a = 1) (hb : b = -1 ∨ b = 0 ∨ b = 1) (hc : c = -1 ∨ c = 0 ∨ c = 1) : or3 a b c = -1 ∨ or3 a b c = 0 ∨ or3 a b c = 1 := by
  unfold or3
  by_cases h1 : a = 0 <;> by_cases h2 : b = 0 <;> simp_all
theorem cmpI_three (a b : Int) : cmpI a b = -1 ∨ cmpI a b = 0 ∨ cmpI a b = 1 := by rcases cmpI_cases a b with ⟨e, _⟩ | ⟨e, _⟩ | ⟨e, _⟩ <;> simp [e]
theorem cmpL_three (a b : Bytes) : cmpL a b = -1 ∨ cmpL a b = 0 ∨ cmpL a b = 1 := by rcases cmpL_cases a b with ⟨e, _⟩ | ⟨e, _⟩ | ⟨e, _⟩ <;> simp [e]
theorem cmpP_cases (a b : Prt) : cmpP a b = -1 ∨ cmpP a b = 0 ∨ cmpP a b = 1 := by
  rw [cmpP_or]
  refine or3_cases (cmpI_three _ _) ?_ (cmpL_three _ _)
  by_cases h : a.1 = 5 ∧ b.1 = 5
  · rw [if_pos h]; exact cmpI_three _ _
  · rw [if_neg h]; simp
theorem glue_kinds {k : Int} {c : UInt8} (hk : k ≠ 2) : ∀ (l : Bytes) (r : List Prt), (∀ p ∈ r, p.1 ≠ 2) → ∀ p ∈ glue k c l r, p.1 ≠ 2
  | [], r, hr, p, hp => by
    simp only [glue, List.mem_cons] at hp
    rcases hp with rfl | hp
    · exact hk
    · exact hr p hp
  | d :: l, [], hr, p, hp => by
    simp only [glue, List.mem_cons] at hp
    rcases hp with rfl | hp
    · exact hk
    · exact hr p hp
  | d :: l, (j, t) :: r, hr, p, hp => by
    simp only [glue] at hp
    split at hp
    · simp only [List.mem_cons] at hp
      rcases hp with rfl | hp
      · exact hr (j, t) (by simp)
      · exact hr p (by simp [hp])
    · simp only [List.mem_cons] at hp
      rcases hp with rfl | hp
      · exact hk
      · exact hr p (by simpa using hp)
theorem kk_ne2 (c : UInt8) : kk c ≠ 2 := by unfold kk; rcases kd_cases c.toNat with h | h | h | h | h <;> rw [h] <;> decide
theorem raw_kinds : ∀ (l : Bytes), ∀ p ∈ raw l, p.1 ≠ 2
  | [], p, hp => by simp [raw] at hp
  | c :: l, p, hp => by
    rw [raw] at hp
    split at hp
    · exact raw_kinds l p hp
    split at hp
    · simp only [List.mem_cons] at hp
      rcases hp with rfl | hp
      · exact kk_ne2 c
      · exact raw_kinds l p hp
    · exact glue_kinds (kk_ne2 c) l (raw l) (raw_kinds l) p hp
theorem pts_kinds (l : Bytes) : ∀ p ∈ pts l, p.1 ≠ 2 := by
  intro p hp
  simp only [pts, List.mem_map] at hp
  obtain ⟨q, hq, rfl⟩ := hp
  exact raw_kinds l q hq
theorem atP_lt {l : List Prt} {k : Nat} (h : k < l.length) : atP l k = l[k] := by simp [atP, h]
theorem atP_ge {l : List Prt} {k : Nat} (h : l.length ≤ k) : atP l k = fin := by simp [atP, h]
theorem atP_at {l : List Prt} {k : Nat} (h : k ≤ l.length) (h2 : k < (l ++ [fin]).length) : (l ++ [fin])[k] = atP l k := by
  by_cases e : k < l.length
  · rw [List.getElem_append_left e, atP_lt e]
  · obtain rfl : k = l.length := by omega
    rw [atP_ge (Nat.le_refl _)]; simp
/-- one round of the document's loop -/
theorem comp_round {a b : Bytes} {k : Nat} (h1 : k ≤ (pts a).length) (h2 : k ≤ (pts b).length) (hc : comp a b = cmpV ((pts a ++ [fin]).drop k) ((pts b ++ [fin]).drop k)) :
    (cmpP (atP (pts a) k) (atP (pts b) k) ≠ 0 → comp a b = cmpP (atP (pts a) k) (atP (pts b) k)) ∧
    (cmpP (atP (pts a) k) (atP (pts b) k) = 0 → (k < (pts a).length ∨ k < (pts b).length) → k < (pts a).length ∧ k < (pts b).length ∧ comp a b = cmpV ((pts a ++ [fin]).drop (k + 1)) ((pts b ++ [fin]).drop (k + 1))) := by
  rw [cmpV_at (by simp; omega) (by simp; omega), atP_at h1, atP_at h2] at hc
  refine ⟨fun h => by rw [if_pos h] at hc; exact hc, fun h h3 => ?_⟩
  rw [if_neg (by simpa using h)] at hc
  have e := cmpP_zero h
  by_cases ha : k < (pts a).length <;> by_cases hb : k < (pts b).length
  · exact ⟨ha, hb, hc⟩
  · rw [atP_lt ha, atP_ge (by omega)] at e
    exact absurd (by rw [e]; rfl) (pts_kinds a _ (List.getElem_mem ha))
  · rw [atP_lt hb, atP_ge (by omega)] at e
    exact absurd (by rw [← e]; rfl) (pts_kinds b _ (List.getElem_mem hb))
  · omega
theorem comp_last {a b : Bytes} {k : Nat} (h1 : k = (pts a).length) (h2 : k = (pts b).length) (hc : comp a b = cmpV ((pts a ++ [fin]).drop k) ((pts b ++ [fin]).drop k)) : comp a b = 0 := by
  rw [hc]
  conv => lhs; arg 1; rw [h1, List.drop_left]
  rw [h2, List.drop_left]
  decide

/- Walks: how the document compares two versions. -/

/- Walks: how two EVRs compare, by the program and by the document. -/

structure Evr where
  epoch : Int
  ver : Bytes
  rel : Bytes
def Evr.val (e : Evr) : Value := .agg #[.int .i64 e.epoch, .string (bs e.ver), .string (bs e.rel)]
/-- HOW TWO EVRs COMPARE -/
def ecmp (a b : Evr) : Int := if cmpI a.epoch b.epoch ≠ 0 then cmpI a.epoch b.epoch else if comp a.ver b.ver ≠ 0 ∨ a.rel = [] ∨ b.rel = [] then comp a.ver b.ver else comp a.rel b.rel

def relC (a b : Evr) : Int := if a.rel = [] ∨ b.rel = [] then 0 else comp a.rel b.rel
/-- an EVR lies in a block of its own -/
def EBox (e : Evr) (B : Nat) (W : World) : Prop :=
  B < W.heap.size ∧ W.cell? ⟨B, 0, none⟩ = some (.int .i64 e.epoch) ∧ W.cell? ⟨B, 1, none⟩ = some (.string (bs e.ver)) ∧ W.cell? ⟨B, 2, none⟩ = some (.string (bs e.rel))
theorem EBox.below {e : Evr} {B n : Nat} {W W' : World} (h : EBox e B W) (hb : Below n W W') (hn : B < n) : EBox e B W' :=
  ⟨Nat.lt_of_lt_of_le h.1 hb.size, (hb.cell (p := ⟨B, 0, none⟩) hn).trans h.2.1, (hb.cell (p := ⟨B, 1, none⟩) hn).trans h.2.2.1, (hb.cell (p := ⟨B, 2, none⟩) hn).trans h.2.2.2⟩

set_option maxRecDepth 100000 in
set_option maxHeartbeats 2000000 in
theorem ask1_any (a b : Evr) (A B : Nat) (w : World) (ha : EBox a A w) (hb : EBox b B w) :
    Calls Tryd.prog 109 #[.pointer (some ⟨A, 0, none⟩), .pointer (some ⟨B, 0, none⟩)] w fun e w' => e = .returned (.int .i64 (cmpI a.epoch b.epoch)) ∧ Below w.heap.size w w' := by
  obtain ⟨_, a0, a1, a2⟩ := ha
  obtain ⟨_, b0, b1, b2⟩ := hb
  go_enter Tryd.func109, Tryd.ntmps109
  go_wp2_with fail
  go_at_call 110
  refine (cmp_int _ _ _).mono ?_
  rintro e w1 ⟨rfl, rfl⟩
  go_wp2
  go_ret
  exact ⟨rfl, Below.refl _ _⟩
set_option maxRecDepth 100000 in
set_option maxHeartbeats 2000000 in
theorem ask2_any (a b : Evr) (A B : Nat) (w : World) (ha : EBox a A w) (hb : EBox b B w) (h1 : a.ver.length ≤ 1000000) (h2 : b.ver.length ≤ 1000000) :
    Calls Tryd.prog 111 #[.pointer (some ⟨A, 0, none⟩), .pointer (some ⟨B, 0, none⟩)] w fun e w' => e = .returned (.int .i64 (comp a.ver b.ver)) ∧ Below w.heap.size w w' := by
  obtain ⟨_, a0, a1, a2⟩ := ha
  obtain ⟨_, b0, b1, b2⟩ := hb
  have C := Lib.hid (comp_any (bs a.ver) (bs b.ver) w (by rw [bs_size]; exact h1) (by rw [bs_size]; exact h2))
  go_enter Tryd.func111, Tryd.ntmps111
  go_wp2_with fail
  go_at_call 112
  refine C.out.mono ?_
  rintro e w1 ⟨rfl, hb1⟩
  go_wp2
  go_ret
  exact ⟨ret_int (by rw [bs_toList, bs_toList]), hb1⟩
set_option maxRecDepth 100000 in
set_option maxHeartbeats 2000000 in
theorem ask3_any (a b : Evr) (A B : Nat) (w : World) (ha : EBox a A w) (hb : EBox b B w) (h1 : a.rel.length ≤ 1000000) (h2 : b.rel.length ≤ 1000000) :
    Calls Tryd.prog 113 #[.pointer (some ⟨A, 0, none⟩), .pointer (some ⟨B, 0, none⟩)] w fun e w' => e = .returned (.int .i64 (relC a b)) ∧ Below w.heap.size w w' := by
  obtain ⟨_, a0, a1, a2⟩ := ha
  obtain ⟨_, b0, b1, b2⟩ := hb
  have C := Lib.hid (comp_any (bs a.rel) (bs b.rel) w (by rw [bs_size]; exact h1) (by rw [bs_size]; exact h2))
  by_cases e1 : a.rel = []
  · have f1 : (bs a.rel).toList = [] := by rw [bs_toList, e1]
    have H := Lib.hid (show relC a b = 0 from if_pos (.inl e1))
    generalize relC a b = r at *
    clear e1
    go_enter Tryd.func113, Tryd.ntmps113
    go_wp2_with fail
    go_ret
    exact ⟨ret_int H.out.symm, Below.refl _ _⟩
  have f1 : ¬ (bs a.rel).toList = [] := by rw [bs_toList]; exact e1
  have f2 : (bs a.rel).toList.isEmpty = false := by rw [bs_toList]; simpa using e1
  by_cases e2 : b.rel = []
  · have f3 : (bs b.rel).toList = [] := by rw [bs_toList, e2]
    have H := Lib.hid (show relC a b = 0 from if_pos (.inr e2))
    generalize relC a b = r at *
    clear e1 e2
    go_enter Tryd.func113, Tryd.ntmps113
    go_wp2_with fail
    go_ret
    exact ⟨ret_int H.out.symm, Below.refl _ _⟩
  · have f3 : ¬ (bs b.rel).toList = [] := by rw [bs_toList]; exact e2
    have f4 : (bs b.rel).toList.isEmpty = false := by rw [bs_toList]; simpa using e2
    have H := Lib.hid (show relC a b = comp a.rel b.rel from if_neg (by simp [e1, e2]))
    generalize relC a b = r at *
    clear e1 e2
    go_enter Tryd.func113, Tryd.ntmps113
    go_wp2_with fail
    go_at_call 112
    refine C.out.mono ?_
    rintro e w1 ⟨rfl, hb1⟩
    go_wp2
    go_ret
    exact ⟨ret_int (by rw [bs_toList, bs_toList, H.out]), hb1⟩

theorem ecmp_or (a b : Evr) : ecmp a b = or3 (cmpI a.epoch b.epoch) (comp a.ver b.ver) (relC a b) := by
  unfold ecmp or3 relC
  by_cases h1 : cmpI a.epoch b.epoch = 0 <;> by_cases h2 : comp a.ver b.ver = 0 <;> by_cases h3 : a.rel = [] ∨ b.rel = [] <;> simp [h1, h2, h3]

def fnv (f A B : Nat) : Value := .func (.func f) #[] #[.pointer (some ⟨A, 0, none⟩), .pointer (some ⟨B, 0, none⟩)]
set_option maxRecDepth 100000 in
set_option maxHeartbeats 2000000 in
theorem first_any (a b : Evr) (A B g : Nat) (w : World) (hg : g < w.heap.size) (ha : EBox a A w) (hb : EBox b B w) (h1 : a.ver.length ≤ 1000000) (h2 : b.ver.length ≤ 1000000) (h3 : a.rel.length ≤ 1000000) (h4 : b.rel.length ≤ 1000000)
    (g0 : w.cell? ⟨g, 0, none⟩ = some (fnv 109 A B)) (g1 : w.cell? ⟨g, 1, none⟩ = some (fnv 111 A B)) (g2 : w.cell? ⟨g, 2, none⟩ = some (fnv 113 A B)) :
    Calls Tryd.prog 108 #[.slice (some ⟨g, 0, none⟩) 3 3] w fun e w' => e = .returned (.int .i64 (ecmp a b)) ∧ Below w.heap.size w w' := by
  have H := Lib.hid (ecmp_or a b)
  have K1 := Lib.hid (fun W (h : Below w.heap.size w W) => ask1_any a b A B W (ha.below h ha.1) (hb.below h hb.1))
  have K2 := Lib.hid (fun W (h : Below w.heap.size w W) => ask2_any a b A B W (ha.below h ha.1) (hb.below h hb.1) h1 h2)
  have K3 := Lib.hid (fun W (h : Below w.heap.size w W) => ask3_any a b A B W (ha.below h ha.1) (hb.below h hb.1) h3 h4)
  generalize ecmp a b = res at *
  generalize cmpI a.epoch b.epoch = r1 at *
  generalize comp a.ver b.ver = r2 at *
  generalize relC a b = r3 at *
  unfold fnv at g0 g1 g2
  clear ha hb
  go_enter Tryd.func108, Tryd.ntmps108
  go_wp2_with fail
  go_loopw [8] (fun i wr => ∃ k : Nat, k ≤ 3 ∧ i = .int .i64 (k : Int) ∧ (1 ≤ k → r1 = 0) ∧ (2 ≤ k → r2 = 0) ∧ (3 ≤ k → r3 = 0) ∧ Below w.heap.size w wr) (fun i _ => 3 - (intOf i).toNat)
  case atStart => exact ⟨0, by omega, rfl, fun h => absurd h (by decide), fun h => absurd h (by decide), fun h => absurd h (by decide), Below.refl _ _⟩
  case round =>
    obtain ⟨k, hk, rfl, e0, e1, e2, hB⟩ := hrel
    have c0 := (hB.cell (p := ⟨g, 0, none⟩) hg).trans g0
    have c1 := (hB.cell (p := ⟨g, 1, none⟩) hg).trans g1
    have c2 := (hB.cell (p := ⟨g, 2, none⟩) hg).trans g2
    rcases (show k = 0 ∨ k = 1 ∨ k = 2 ∨ k = 3 by omega) with rfl | rfl | rfl | rfl
    · by_cases hz : r1 = 0
      · go_wp2_with fail
        go_at_call 109
        refine (K1.out _ hB).mono ?_
        rintro e w5 ⟨rfl, h⟩
        have B5 := hB.trans (h.mono hB.size)
        clear h
        go_wp2
        go_roundw
        case rel => exact ⟨1, by omega, by go_num, fun _ => hz, fun h => absurd h (by decide), fun h => absurd h (by decide), B5⟩
        case measure => simp [intOf]
      · have H2 := Lib.hid (show r1 = res by rw [H.out]; unfold or3; simp [hz])
        go_wp2_with fail
        go_at_call 109
        refine (K1.out _ hB).mono ?_
        rintro e w5 ⟨rfl, h⟩
        have B5 := hB.trans (h.mono hB.size)
        clear h
        go_wp2
        go_ret
        exact ⟨ret_int H2.out, B5⟩
    · by_cases hz : r2 = 0
      · go_wp2_with fail
        go_at_call 111
        refine (K2.out _ hB).mono ?_
        rintro e w5 ⟨rfl, h⟩
        have B5 := hB.trans (h.mono hB.size)
        clear h
        go_wp2
        go_roundw
        case rel => exact ⟨2, by omega, by go_num, fun _ => e0 (by decide), fun _ => hz, fun h => absurd h (by decide), B5⟩
        case measure => simp [intOf]
      · have H2 := Lib.hid (show r2 = res by rw [H.out]; unfold or3; simp [e0 (by decide), hz])
        go_wp2_with fail
        go_at_call 111
        refine (K2.out _ hB).mono ?_
        rintro e w5 ⟨rfl, h⟩
        have B5 := hB.trans (h.mono hB.size)
        clear h
        go_wp2
        go_ret
        exact ⟨ret_int H2.out, B5⟩
    · by_cases hz : r3 = 0
      · go_wp2_with fail
        go_at_call 113
        refine (K3.out _ hB).mono ?_
        rintro e w5 ⟨rfl, h⟩
        have B5 := hB.trans (h.mono hB.size)
        clear h
        go_wp2
        go_roundw
        case rel => exact ⟨3, by omega, by go_num, fun _ => e0 (by decide), fun _ => e1 (by decide), fun _ => hz, B5⟩
        case measure => simp [intOf]
      · have H2 := Lib.hid (show r3 = res by rw [H.out]; unfold or3; simp [e0 (by decide), e1 (by decide)])
        go_wp2_with fail
        go_at_call 113
        refine (K3.out _ hB).mono ?_
        rintro e w5 ⟨rfl, h⟩
        have B5 := hB.trans (h.mono hB.size)
        clear h
        go_wp2
        go_ret
        exact ⟨ret_int H2.out, B5⟩
    · have H2 := Lib.hid (show (0 : Int) = res by rw [H.out]; unfold or3; simp [e0 (by decide), e1 (by decide), e2 (by decide)])
      go_wp2
      go_ret
      exact ⟨ret_int H2.out, hB⟩

theorem new_ebox (w : World) (e : Evr) : EBox e w.heap.size (w.alloc (.cells #[.int .i64 e.epoch, .string (bs e.ver), .string (bs e.rel)] 24)) :=
  ⟨by simp, (World.cell?_alloc_at _ _ _ _ rfl).trans rfl, (World.cell?_alloc_at _ _ _ _ rfl).trans rfl, (World.cell?_alloc_at _ _ _ _ rfl).trans rfl⟩
set_option maxRecDepth 100000 in
set_option maxHeartbeats 2000000 in
theorem evr_any (a b : Evr) (w : World) (h1 : a.ver.length ≤ 1000000) (h2 : b.ver.length ≤ 1000000) (h3 : a.rel.length ≤ 1000000) (h4 : b.rel.length ≤ 1000000) :
    Calls Tryd.prog 102 #[a.val, b.val] w fun e w' => e = .returned (.int .i64 (ecmp a b)) ∧ Below w.heap.size w w' := by
  have F := Lib.hid (fun A B g W => first_any a b A B g W)
  have q1 := new_ebox w a
  have q2 := new_ebox (w.alloc (.cells #[.int .i64 a.epoch, .string (bs a.ver), .string (bs a.rel)] 24)) b
  unfold Evr.val
  go_enter Tryd.func102, Tryd.ntmps102
  go_wp2_with fail
  go_at_call 108
  have B2 : Below w.heap.size w (((w.alloc (.cells #[.int .i64 a.epoch, .string (bs a.ver), .string (bs a.rel)] 24)).alloc (.cells #[.int .i64 b.epoch, .string (bs b.ver), .string (bs b.rel)] 24)).alloc
      (.cells #[fnv 109 w.heap.size (w.heap.size + 1), fnv 111 w.heap.size (w.heap.size + 1), fnv 113 w.heap.size (w.heap.size + 1)] 161)) :=
    (((Below.refl _ _).alloc (Nat.le_refl _) _).alloc (by simp) _).alloc (by simp; omega) _
  simp only [World.size_alloc] at q2
  have hn : ∀ (W : World) (o : Obj), Below W.heap.size W (W.alloc o) := fun W o => (Below.refl _ _).alloc (Nat.le_refl _) o
  refine (F.out w.heap.size (w.heap.size + 1) (w.heap.size + 1 + 1) _ (by simp) ((q1.below (hn _ _) q1.1).below (hn _ _) (by simp; omega)) (q2.below (hn _ _) (by simp)) h1 h2 h3 h4
    ((World.cell?_alloc_at _ _ _ _ (by simp)).trans rfl) ((World.cell?_alloc_at _ _ _ _ (by simp)).trans rfl) ((World.cell?_alloc_at _ _ _ _ (by simp)).trans rfl)).mono ?_
  rintro e w5 ⟨rfl, h⟩
  have B5 := B2.trans (h.mono (by simp; omega))
  clear h
  go_wp2
  go_ret
  exact ⟨rfl, B5⟩

/- Walks: how two EVRs compare, by the document. -/

theorem ecmp_lt {a b : Evr} (h : a.epoch < b.epoch) : ecmp a b = -1 := by unfold ecmp cmpI; simp [h]
theorem ecmp_gt {a b : Evr} (h : b.epoch < a.epoch) : ecmp a b = 1 := by
  have e : cmpI a.epoch b.epoch = 1 := by unfold cmpI; rw [if_neg (by omega), if_pos h]
  unfold ecmp; simp [e]
theorem ecmp_eq {a b : Evr} (h : a.epoch = b.epoch) : ecmp a b = if comp a.ver b.ver ≠ 0 ∨ a.rel = [] ∨ b.rel = [] then comp a.ver b.ver else comp a.rel b.rel := by
  have e : cmpI a.epoch b.epoch = 0 := by unfold cmpI; rw [if_neg (by omega), if_neg (by omega)]
  unfold ecmp; simp [e]

/- Walks: span by the document. -/

structure Dp where
  name : Bytes
  op : Int
  evr : Evr
def Dp.val (d : Dp) : Value := .agg #[.string (bs d.name), .int .u8 d.op, .int .i64 d.evr.epoch, .string (bs d.evr.ver), .string (bs d.evr.rel)]

/-- the bits of an Op -/
def band (n m : Int) : Int := bits BinOp.and IntKind.u8 n m
/-- the bit that an Op needs of what is less, the same, greater -/
def sideI (c : Int) : Int := if c < 0 then 1 else if c = 0 then 2 else 4
def hasP (d : Dp) (e : Evr) : Bool := d.op.tmod 8 == 0 || band d.op (sideI (ecmp e d.evr)) != 0
def Evr.ok (e : Evr) : Prop := e.ver.length ≤ 1000000 ∧ e.rel.length ≤ 1000000
theorem new_dbox (w : World) (d : Dp) (e : Evr) : let W := (w.alloc (.cells #[.string (bs d.name), .int .u8 d.op, .int .i64 d.evr.epoch, .string (bs d.evr.ver), .string (bs d.evr.rel)] 26)).alloc (.cells #[.int .i64 e.epoch, .string (bs e.ver), .string (bs e.rel)] 24)
    W.cell? ⟨w.heap.size, 1, none⟩ = some (.int .u8 d.op) ∧ w.heap.size < W.heap.size ∧ Below w.heap.size w W :=
  ⟨(World.cell?_alloc_past _ _ _ (by simp)).trans ((World.cell?_alloc_at _ _ _ _ rfl).trans rfl), by simp; omega, ((Below.refl _ _).alloc (Nat.le_refl _) _).alloc (by simp) _⟩

def meetP (a b : Dp) : Bool := a.op.tmod 8 == 0 || (b.op.tmod 8 == 0 || (let n := ecmp a.evr b.evr
  if n < 0 then band a.op 4 != 0 || band b.op 1 != 0 else if 0 < n then band a.op 1 != 0 || band b.op 4 != 0 else band (band a.op b.op) 7 != 0))
theorem new_2dbox (w : World) (d e : Dp) : let W := (w.alloc (.cells #[.string (bs d.name), .int .u8 d.op, .int .i64 d.evr.epoch, .string (bs d.evr.ver), .string (bs d.evr.rel)] 26)).alloc (.cells #[.string (bs e.name), .int .u8 e.op, .int .i64 e.evr.epoch, .string (bs e.evr.ver), .string (bs e.evr.rel)] 26)
    W.cell? ⟨w.heap.size, 1, none⟩ = some (.int .u8 d.op) ∧ W.cell? ⟨w.heap.size + 1, 1, none⟩ = some (.int .u8 e.op) ∧ w.heap.size + 1 < W.heap.size ∧ Below w.heap.size w W :=
  ⟨(World.cell?_alloc_past _ _ _ (by simp)).trans ((World.cell?_alloc_at _ _ _ _ rfl).trans rfl), (World.cell?_alloc_at _ _ _ _ (by simp)).trans rfl, by simp, ((Below.refl _ _).alloc (Nat.le_refl _) _).alloc (by simp) _⟩
end Go.Proofs.YtpnnhhgojijlbaaDoor
