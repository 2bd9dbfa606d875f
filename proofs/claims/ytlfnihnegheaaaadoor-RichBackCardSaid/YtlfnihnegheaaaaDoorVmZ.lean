/- joined: VmW0, VmIter, VmParts, VmCmp, VmComp, VmRef, VmRefC, VmRefD, EvCmp, EvRef, SpRef -/
import Derived.Test.YtlfnihnegheaaaaDoorVmPlain
import Derived.Deep.QuietTactic
import Derived.BigQuiet
import Derived.RangeFuncNested
import Derived.RangeFuncBound
import Derived.RangeFuncCalls
import Derived.RangeFuncLeaves
import Derived.RangeFuncBox
import Derived.Shelf.Abstract
import Derived.Shelf.RegionOpen
import Derived.OwnWalkIn
import Derived.TacticsInMore
import Derived.LoopNIn
import Derived.LoopIn
import Derived.StillTailTactics
import Derived.RegionTactic
import Derived.ChangeAlike
import Derived.Sort.Walk0
import Derived.Deep.RegionWith
namespace Go.Proofs.YtlfnihnegheaaaaDoor
open Go.RowKit Go.Shelf
set_option linter.unusedVariables false
/- Walks: the plain functions of vercmp, of its document, and of Go's cmp and strings that it asks. -/

theorem kd_126 : kd 126 = 1 := rfl
theorem kd_94 : kd 94 = 3 := rfl
theorem kd_low {n : Int} (h1 : 97 ≤ n) (h2 : n ≤ 122) : kd n = 4 := by unfold kd; rw [if_neg (by omega), if_neg (by omega), if_pos (.inl ⟨h1, h2⟩)]
theorem kd_up {n : Int} (h1 : 65 ≤ n) (h2 : n ≤ 90) : kd n = 4 := by unfold kd; rw [if_neg (by omega), if_neg (by omega), if_pos (.inr ⟨h1, h2⟩)]
theorem kd_dig {n : Int} (h1 : 48 ≤ n) (h2 : n ≤ 57) : kd n = 5 := by unfold kd; rw [if_neg (by omega), if_neg (by omega), if_neg (by omega), if_pos ⟨h1, h2⟩]
theorem kd_no {n : Int} (h1 : n ≠ 126) (h2 : n ≠ 94) (h3 : ¬ (97 ≤ n ∧ n ≤ 122)) (h4 : ¬ (65 ≤ n ∧ n ≤ 90)) (h5 : ¬ (48 ≤ n ∧ n ≤ 57)) : kd n = 0 := by
  unfold kd; rw [if_neg h1, if_neg h2, if_neg (by omega), if_neg h5]

/-- zeros ahead cut off -/
def zcut (l : Bytes) : Bytes := l.dropWhile (· == 48)
/- the parts compared -/
def cmpI (a b : Int) : Int := if a < b then -1 else if b < a then 1 else 0
def ltB (a b : ByteArray) : Bool := Op.bytesLess a.toList b.toList
def cmpL (a b : Bytes) : Int := if Op.bytesLess a b then -1 else if a == b then 0 else 1
def cmpP (a b : Prt) : Int := if cmpI a.1 b.1 ≠ 0 then cmpI a.1 b.1 else if a.1 = 5 ∧ b.1 = 5 ∧ cmpI a.2.length b.2.length ≠ 0 then cmpI a.2.length b.2.length else cmpL a.2 b.2

/- Walks: the iterator of vercmp: what it tells its loop, one behind the other. -/
attribute [local go_sem] Oper.semAt_some
theorem asked_wide {P : Program} {o : Oper} {a : Act} {C : World → Prop} : Oper.askedIn Fence.wide P o a C = True := by simp [Oper.askedIn, Fence.wide]
attribute [local go_sem ↓ high] asked_wide

def prtArgs (x : Prt) : Array Value := #[.agg #[.int .u8 x.1, .string (bs x.2)]]

/-- behind the run's first byte at k the next m bytes are of it, and what is of it behind these is of it all -/
def Upto (p : UInt8 → Bool) (s : ByteArray) (k m : Nat) : Prop := (s.toList.drop (k + 1)).takeWhile p = (s.toList.drop (k + 1)).take m ++ (s.toList.drop (k + 1 + m)).takeWhile p
def Done (p : UInt8 → Bool) (s : ByteArray) (k m : Nat) : Prop := (s.toList.drop (k + 1)).takeWhile p = (s.toList.drop (k + 1)).take m
theorem Upto.next {p : UInt8 → Bool} {s : ByteArray} {k m : Nat} (h : Upto p s k m) (hlt : k + 1 + m < s.size) : (p s[k + 1 + m] = true → Upto p s k (m + 1)) ∧ (p s[k + 1 + m] = false → Done p s k m) := by
  unfold Upto at h
  rw [toList_drop s (k + 1 + m) hlt] at h
  constructor
  · intro g
    unfold Upto
    rw [List.takeWhile_cons_of_pos g] at h
    rw [h, take_snoc _ m (by rw [List.length_drop, size_toList]; omega)]
    rw [List.getElem_drop, toList_get s (k + 1 + m) hlt, List.append_assoc, List.singleton_append]; rfl
  · intro g
    rw [List.takeWhile_cons_of_neg (by simp [g]), List.append_nil] at h
    exact h
theorem Upto.last {p : UInt8 → Bool} {s : ByteArray} {k m : Nat} (h : Upto p s k m) (hm : k + 1 + m = s.size) : Done p s k m := by
  unfold Upto at h
  rw [List.drop_of_length_le (i := k + 1 + m) (by rw [size_toList]; omega)] at h
  simpa [Done] using h
theorem Done.cut {p : UInt8 → Bool} {s : ByteArray} {k m : Nat} (h : Done p s k m) (hlt : k < s.size) : s.extract k (k + 1 + m) = bs (s[k] :: (s.toList.drop (k + 1)).takeWhile p) := by
  rw [bs_extract, h, toList_drop s k hlt]
  rw [show k + 1 + m - k = m + 1 from by omega, List.take_succ_cons]
theorem Done.len {p : UInt8 → Bool} {s : ByteArray} {k m : Nat} (h : Done p s k m) (hm : k + 1 + m ≤ s.size) : ((s.toList.drop (k + 1)).takeWhile p).length = m := by
  rw [h, List.length_take, List.length_drop, size_toList]; omega
theorem Done.rest {p : UInt8 → Bool} {s : ByteArray} {k m : Nat} (h : Done p s k m) (hm : k + 1 + m ≤ s.size) : (s.toList.drop (k + 1)).dropWhile p = s.toList.drop (k + 1 + m) := by
  have h1 := List.takeWhile_append_dropWhile (p := p) (l := s.toList.drop (k + 1))
  have h2 : (s.toList.drop (k + 1)).dropWhile p = (s.toList.drop (k + 1)).drop ((s.toList.drop (k + 1)).takeWhile p).length := by
    have h3 : ∀ (a b c : Bytes), a ++ b = c → b = c.drop a.length := by
      intro a b c e
      rw [← e, List.drop_left]
    exact h3 _ _ _ h1
  rw [h2, h.len hm, List.drop_drop]
theorem kk_cases (c : UInt8) : kk c = 0 ∨ (kk c ≠ 0 ∧ kk c < 4) ∨ kk c = 4 ∨ kk c = 5 := by
  unfold kk
  rcases kd_cases c.toNat with h | h | h | h | h <;> rw [h] <;> simp
theorem like_yes {c d : UInt8} {v : Int} (g : kk c = v) (h : kd (d.toNat : Int) = v) : like c d = true := by
  unfold like; rw [g]; simpa [kk] using h
theorem like_no {c d : UInt8} {v : Int} (g : kk c = v) (h : ¬ kd (d.toNat : Int) = v) : like c d = false := by
  unfold like; rw [g]; simpa [kk] using h
theorem pts_num5 {c : UInt8} (l : Bytes) (h : kk c = 5) : pts (c :: l) = (5, zcut (c :: l.takeWhile (like c))) :: pts (l.dropWhile (like c)) := pts_num l h

theorem grown_below {w w' : World} (h : Below w.heap.size w w') : w.grownBy w' none := ⟨h.os, h.tape, h.output, h.size, fun k hk _ => h.block k hk⟩
def KBox (Bs : Nat) (W W' : World) : Prop := W'.cell? ⟨Bs, 0, none⟩ = W.cell? ⟨Bs, 0, none⟩ ∧ W.heap.size ≤ W'.heap.size

/-- the round's own part lies in a block of its own -/
def PartAt (w : World) (Bs : Nat) (s : ByteArray) (v : Int) (A : World) : Prop :=
  A.cell? ⟨Bs, 0, none⟩ = some (.string s) ∧ A.cell? ⟨w.heap.size, 0, none⟩ = some (.int .u8 v) ∧ A.cell? ⟨w.heap.size, 1, none⟩ = some (.string ⟨#[]⟩) ∧
    A.frozen? ⟨w.heap.size, 1, none⟩ = false ∧ Below w.heap.size w A
theorem PartAt.drewN {w : World} {Bs : Nat} {s : ByteArray} {v : Int} {A : World} (h : PartAt w Bs s v A) (n : Nat) : PartAt w Bs s v (A.drewN n) := ⟨h.1, h.2.1, h.2.2.1, h.2.2.2.1, h.2.2.2.2.trans ⟨rfl, rfl, rfl, Nat.le_refl _, fun _ _ => rfl⟩⟩

/- Walks: vercmp.Parts: the parts of any text. -/
attribute [local go_sem] Oper.semAt_some
attribute [local go_sem ↓ high] asked_wide

def encP (x : Prt) : List Value := [.int .u8 x.1, .string (bs x.2)]
theorem kbox_t {Bs : Nat} {A B C : World} (h : KBox Bs A B) (k : KBox Bs B C) : KBox Bs A C := ⟨Eq.trans k.1 h.1, Nat.le_trans h.2 k.2⟩
theorem kbox_b {Bs : Nat} {w : World} (hn : Bs < w.heap.size) (W : World) (l : Nat) (o o' : Obj) (hl : w.heap.size ≤ l) (_ : W.heap[l]? = some o) (_ : o.isCells = false) (_ : o.isWalk = false) : KBox Bs W (W.putObj l o') :=
  ⟨World.cell?_of_block (World.putObj_heap_other (by simp; omega)), (grownBy_putObj' W l o').size⟩

def PX (_ : Code) (_ : List Prt) (_ : World) : Prop := False
theorem PX_own (c : Code) {B : Nat} : OwnFrom B (PX c) := fun _ _ _ _ h _ _ => h
/- Walks: how two parts compare, and how two versions do. -/

def or3 (a b c : Int) : Int := if a ≠ 0 then a else if b ≠ 0 then b else c
theorem cmpP_both {a b : Prt} (ha : a.1 = 5) (hb : b.1 = 5) : cmpP a b = or3 (cmpI a.1 b.1) (cmpI a.2.length b.2.length) (cmpL a.2 b.2) := by
  unfold cmpP or3; simp only [ha, hb, true_and]
theorem cmpP_not {a b : Prt} (h : ¬ (a.1 = 5 ∧ b.1 = 5)) : cmpP a b = or3 (cmpI a.1 b.1) 0 (cmpL a.2 b.2) := by
  unfold cmpP or3
  by_cases h1 : cmpI a.1 b.1 ≠ 0
  · rw [if_pos h1, if_pos h1]
  · rw [if_neg h1, if_neg h1, if_neg (fun h2 => h ⟨h2.1, h2.2.1⟩)]; simp
theorem new3 (w : World) (a b c : Int) : let A := w.alloc (.cells #[.int .i64 a, .int .i64 b, .int .i64 c] 3)
    A.cell? ⟨w.heap.size, 0, none⟩ = some (.int .i64 a) ∧ A.cell? ⟨w.heap.size, 1, none⟩ = some (.int .i64 b) ∧ A.cell? ⟨w.heap.size, 2, none⟩ = some (.int .i64 c) :=
  ⟨(World.cell?_alloc_at _ _ _ _ rfl).trans rfl, (World.cell?_alloc_at _ _ _ _ rfl).trans rfl, (World.cell?_alloc_at _ _ _ _ rfl).trans rfl⟩

/- Walks: how two versions compare. -/

def fin : Prt := (2, [])
/-- two rows of parts compared, part by part -/
def cmpV : List Prt → List Prt → Int
  | a :: l, b :: m => if cmpP a b ≠ 0 then cmpP a b else cmpV l m
  | _, _ => 0
/-- HOW TWO VERSIONS COMPARE -/
def comp (a b : Bytes) : Int := cmpV (pts a ++ [fin]) (pts b ++ [fin])
theorem cmpV_at {l m : List Prt} {k : Nat} (hl : k < l.length) (hm : k < m.length) : cmpV (l.drop k) (m.drop k) = if cmpP l[k] m[k] ≠ 0 then cmpP l[k] m[k] else cmpV (l.drop (k + 1)) (m.drop (k + 1)) := by
  rw [List.drop_eq_getElem_cons hl, List.drop_eq_getElem_cons hm]; rfl
theorem cmpV_end {l m : List Prt} {k : Nat} (h : l.length ≤ k ∨ m.length ≤ k) : cmpV (l.drop k) (m.drop k) = 0 := by
  rcases h with h | h
  · rw [List.drop_of_length_le h]; rfl
  · rw [List.drop_of_length_le h]; cases l.drop k <;> rfl
theorem fin_enc : encP fin = [.int .u8 2, .string ⟨#[]⟩] := rfl

/- Walks: the document's answer for vercmp. -/

/-- of what stands at k on, the next m bytes are of the run, and what is of it behind these is of it all -/
def Up (p : UInt8 → Bool) (s : ByteArray) (k m : Nat) : Prop := (s.toList.drop k).takeWhile p = (s.toList.drop k).take m ++ (s.toList.drop (k + m)).takeWhile p
def Dn (p : UInt8 → Bool) (s : ByteArray) (k m : Nat) : Prop := (s.toList.drop k).takeWhile p = (s.toList.drop k).take m
theorem Up.next {p : UInt8 → Bool} {s : ByteArray} {k m : Nat} (h : Up p s k m) (hlt : k + m < s.size) : (p s[k + m] = true → Up p s k (m + 1)) ∧ (p s[k + m] = false → Dn p s k m) := by
  unfold Up at h
  rw [toList_drop s (k + m) hlt] at h
  constructor
  · intro g
    unfold Up
    rw [List.takeWhile_cons_of_pos g] at h
    rw [h, take_snoc _ m (by rw [List.length_drop, size_toList]; omega)]
    rw [List.getElem_drop, toList_get s (k + m) hlt, List.append_assoc, List.singleton_append]; rfl
  · intro g
    rw [List.takeWhile_cons_of_neg (by simp [g]), List.append_nil] at h
    exact h
theorem Up.last {p : UInt8 → Bool} {s : ByteArray} {k m : Nat} (h : Up p s k m) (hm : k + m = s.size) : Dn p s k m := by
  unfold Up at h
  rw [List.drop_of_length_le (i := k + m) (by rw [size_toList]; omega)] at h
  simpa [Dn] using h
theorem Dn.rest {p : UInt8 → Bool} {s : ByteArray} {k m : Nat} (h : Dn p s k m) (hm : k + m ≤ s.size) : (s.toList.drop k).dropWhile p = s.toList.drop (k + m) := by
  have h1 := List.takeWhile_append_dropWhile (p := p) (l := s.toList.drop k)
  have h2 : (s.toList.drop k).dropWhile p = (s.toList.drop k).drop ((s.toList.drop k).takeWhile p).length := by
    have h3 : ∀ (a b c : Bytes), a ++ b = c → b = c.drop a.length := by
      intro a b c e
      rw [← e, List.drop_left]
    exact h3 _ _ _ h1
  rw [h2, h, List.length_take, List.length_drop, size_toList, List.drop_drop, Nat.min_eq_left (by omega)]
theorem like_self (c : UInt8) : like c c = true := by simp [like]
theorem pts_run_at {s : ByteArray} {k m : Nat} (hlt : k < s.size) (h4 : 4 ≤ kk s[k]) (h : Dn (like s[k]) s k m) (hm : k + m ≤ s.size) : pts (s.toList.drop k) = strip (kk s[k], (s.toList.drop k).take m) :: pts (s.toList.drop (k + m)) := by
  have hr := h.rest hm
  unfold Dn at h
  rw [toList_drop s k hlt] at h hr ⊢
  rw [pts_run _ h4, ← h, ← hr]
  simp [like_self]
theorem zcut_on {s : ByteArray} {k m j : Nat} (hj : j < k + m) (hm : k + m ≤ s.size) (hb : s[j] = 48) (h : zcut ((s.toList.drop k).take m) = zcut ((s.toList.drop j).take (k + m - j))) :
    zcut ((s.toList.drop k).take m) = zcut ((s.toList.drop (j + 1)).take (k + m - (j + 1))) := by
  rw [h, toList_drop s j (by omega), show k + m - j = (k + m - (j + 1)) + 1 by omega, List.take_succ_cons, hb]
  simp [zcut]
theorem zcut_off {s : ByteArray} {k m j : Nat} (hj : j < k + m) (hm : k + m ≤ s.size) (hb : ¬ s[j] = 48) (h : zcut ((s.toList.drop k).take m) = zcut ((s.toList.drop j).take (k + m - j))) :
    s.extract j (k + m) = bs (zcut ((s.toList.drop k).take m)) := by
  rw [h, bs_extract]
  congr 1
  rw [toList_drop s j (by omega), show k + m - j = (k + m - (j + 1)) + 1 by omega, List.take_succ_cons]
  have hb2 : (s[j] == 48) = false := by simpa using hb
  simp only [zcut, List.dropWhile_cons, hb2, Bool.false_eq_true, if_false]
theorem zcut_out {s : ByteArray} {k m : Nat} (h : zcut ((s.toList.drop k).take m) = zcut ((s.toList.drop (k + m)).take (k + m - (k + m)))) :
    s.extract (k + m) (k + m) = bs (zcut ((s.toList.drop k).take m)) := by
  rw [h, bs_extract, Nat.sub_self, List.take_zero]; rfl
theorem zcut_out0 {s : ByteArray} {k m : Nat} (h : zcut ((s.toList.drop k).take m) = zcut ((s.toList.drop (k + m)).take (k + m - (k + m)))) : zcut ((s.toList.drop k).take m) = [] := by
  rw [h, Nat.sub_self, List.take_zero]; rfl
theorem word_cut {s : ByteArray} {k m : Nat} : s.extract k (k + m) = bs ((s.toList.drop k).take m) := by
  rw [bs_extract, Nat.add_sub_cancel_left]
theorem run4 {s : ByteArray} {k m : Nat} (hlt : k < s.size) (g : kk s[k] = 4) (h : Dn (like s[k]) s k m) (hm : k + m ≤ s.size) : pts (s.toList.drop k) = (4, (s.toList.drop k).take m) :: pts (s.toList.drop (k + m)) := by
  rw [pts_run_at hlt (by omega) h hm]; simp [strip, g]
theorem run5 {s : ByteArray} {k m : Nat} (hlt : k < s.size) (g : kk s[k] = 5) (h : Dn (like s[k]) s k m) (hm : k + m ≤ s.size) : pts (s.toList.drop k) = (5, zcut ((s.toList.drop k).take m)) :: pts (s.toList.drop (k + m)) := by
  rw [pts_run_at hlt (by omega) h hm]; simp [strip, g, zcut]

/- Walks: how the document compares two versions: the same as the program does. -/

theorem bl_irrefl : ∀ a : Bytes, Op.bytesLess a a = false
  | [] => rfl
  | x :: a => by simp [Op.bytesLess, bl_irrefl a]
theorem bl_total : ∀ a b : Bytes, Op.bytesLess a b = false → Op.bytesLess b a = false → a = b
  | [], [], _, _ => rfl
  | [], _ :: _, h, _ => by simp [Op.bytesLess] at h
  | _ :: _, [], _, h => by simp [Op.bytesLess] at h
  | x :: a, y :: b, h1, h2 => by
    simp only [Op.bytesLess, Bool.or_eq_false_iff, decide_eq_false_iff_not, Bool.and_eq_false_iff, beq_eq_false_iff_ne, ne_eq] at h1 h2
    have e : x = y := by
      apply UInt8.toNat_inj.1
      have q1 := h1.1; have q2 := h2.1
      rw [UInt8.lt_iff_toNat_lt] at q1 q2
      omega
    subst e
    have r1 : Op.bytesLess a b = false := by rcases h1.2 with h | h; · exact absurd rfl h
                                             · simpa using h
    have r2 : Op.bytesLess b a = false := by rcases h2.2 with h | h; · exact absurd rfl h
                                             · simpa using h
    rw [bl_total a b r1 r2]
theorem bl_asymm : ∀ a b : Bytes, Op.bytesLess a b = true → Op.bytesLess b a = false
  | [], [], h => by simp [Op.bytesLess] at h
  | [], _ :: _, _ => by simp [Op.bytesLess]
  | _ :: _, [], h => by simp [Op.bytesLess] at h
  | x :: a, y :: b, h => by
    simp only [Op.bytesLess, Bool.or_eq_true, decide_eq_true_eq, Bool.and_eq_true, beq_iff_eq] at h
    simp only [Op.bytesLess, Bool.or_eq_false_iff, decide_eq_false_iff_not, Bool.and_eq_false_iff, beq_eq_false_iff_ne, ne_eq]
    rcases h with h | ⟨rfl, h⟩
    · rw [UInt8.lt_iff_toNat_lt] at h
      refine ⟨by rw [UInt8.lt_iff_toNat_lt]; omega, .inl (fun e => ?_)⟩
      subst e; omega
    · exact ⟨by rw [UInt8.lt_iff_toNat_lt]; omega, .inr (bl_asymm a b h)⟩
theorem bl_trans : ∀ a b c : Bytes, Op.bytesLess a b = true → Op.bytesLess b c = true → Op.bytesLess a c = true
  | _, [], _, h, _ => by cases ‹Bytes› <;> simp [Op.bytesLess] at h
  | _, _ :: _, [], _, h => by simp [Op.bytesLess] at h
  | [], _ :: _, _ :: _, _, _ => by simp [Op.bytesLess]
  | x :: a, y :: b, z :: c, h1, h2 => by
    simp only [Op.bytesLess, Bool.or_eq_true, decide_eq_true_eq, Bool.and_eq_true, beq_iff_eq] at h1 h2 ⊢
    simp only [UInt8.lt_iff_toNat_lt] at h1 h2 ⊢
    rcases h1 with h1 | ⟨rfl, h1⟩ <;> rcases h2 with h2 | ⟨rfl, h2⟩
    · exact .inl (by omega)
    · exact .inl h1
    · exact .inl h2
    · exact .inr ⟨rfl, bl_trans a b c h1 h2⟩

/-- is a part less than another one? -/
def lessP (a b : Prt) : Bool := cmpP a b == -1
theorem cmpI_cases (a b : Int) : (cmpI a b = -1 ∧ a < b) ∨ (cmpI a b = 0 ∧ a = b) ∨ (cmpI a b = 1 ∧ b < a) := by
  unfold cmpI
  by_cases h1 : a < b
  · left; simp [h1]
  by_cases h2 : b < a
  · right; right; simp [h1, h2]
  · right; left; simp [h1, h2]; omega
theorem cmpL_cases (a b : Bytes) : (cmpL a b = -1 ∧ Op.bytesLess a b = true) ∨ (cmpL a b = 0 ∧ a = b) ∨ (cmpL a b = 1 ∧ Op.bytesLess b a = true) := by
  unfold cmpL
  cases h1 : Op.bytesLess a b with
  | true => left; simp
  | false =>
    by_cases h2 : a = b
    · right; left; simp [h2]
    · right; right
      refine ⟨by simp [h2], ?_⟩
      cases h3 : Op.bytesLess b a with
      | true => rfl
      | false => exact absurd (bl_total a b h1 h3) h2
theorem lessP_kind {a b : Prt} (h : a.1 ≠ b.1) : lessP a b = decide (a.1 < b.1) := by
  unfold lessP cmpP
  rcases cmpI_cases a.1 b.1 with ⟨e, h2⟩ | ⟨e, h2⟩ | ⟨e, h2⟩
  · rw [e]; simp [h2]
  · exact absurd h2 h
  · rw [e]; simp; omega
theorem lessP_len {a b : Prt} (h : a.1 = b.1) (h5 : a.1 = 5) (hl : a.2.length ≠ b.2.length) : lessP a b = decide (a.2.length < b.2.length) := by
  unfold lessP cmpP
  rw [if_neg (by rw [h]; rcases cmpI_cases b.1 b.1 with ⟨e, h2⟩ | ⟨e, h2⟩ | ⟨e, h2⟩ <;> simp [e] <;> omega)]
  rcases cmpI_cases a.2.length b.2.length with ⟨e, h2⟩ | ⟨e, h2⟩ | ⟨e, h2⟩
  · rw [if_pos ⟨h5, h ▸ h5, by rw [e]; decide⟩, e]; simp; omega
  · exact absurd (by omega) hl
  · rw [if_pos ⟨h5, h ▸ h5, by rw [e]; decide⟩, e]; simp; omega
theorem lessP_str {a b : Prt} (h : a.1 = b.1) (hl : a.1 = 5 → a.2.length = b.2.length) : lessP a b = Op.bytesLess a.2 b.2 := by
  unfold lessP cmpP
  rw [if_neg (by rw [h]; rcases cmpI_cases b.1 b.1 with ⟨e, h2⟩ | ⟨e, h2⟩ | ⟨e, h2⟩ <;> simp [e] <;> omega)]
  rw [if_neg (by
    rintro ⟨h1, h2, h3⟩
    rcases cmpI_cases a.2.length b.2.length with ⟨e, h4⟩ | ⟨e, h4⟩ | ⟨e, h4⟩
    · have := hl h1; omega
    · exact h3 e
    · have := hl h1; omega)]
  rcases cmpL_cases a.2 b.2 with ⟨e, h4⟩ | ⟨e, h4⟩ | ⟨e, h4⟩
  · rw [e, h4]; rfl
  · rw [e, h4, bl_irrefl]; rfl
  · rw [e, bl_asymm _ _ h4]; rfl

def Bx2 (w : World) (ka kb : Int) (ta tb : Bytes) (A : World) : Prop :=
  A.cell? ⟨w.heap.size, 0, none⟩ = some (.int .u8 ka) ∧ A.cell? ⟨w.heap.size, 1, none⟩ = some (.string (bs ta)) ∧ A.cell? ⟨w.heap.size + 1, 0, none⟩ = some (.int .u8 kb) ∧ A.cell? ⟨w.heap.size + 1, 1, none⟩ = some (.string (bs tb)) ∧ Below w.heap.size w A
theorem Bx2.drewN {w : World} {ka kb : Int} {ta tb : Bytes} {A : World} (h : Bx2 w ka kb ta tb A) (n : Nat) : Bx2 w ka kb ta tb (A.drewN n) := ⟨h.1, h.2.1, h.2.2.1, h.2.2.2.1, h.2.2.2.2.trans ⟨rfl, rfl, rfl, Nat.le_refl _, fun _ _ => rfl⟩⟩
/-- a part of the row, or the end -/
def atP (l : List Prt) (i : Nat) : Prt := (l[i]?).getD fin
/- the order of parts -/
theorem cmpI_neg (a b : Int) : cmpI b a = - cmpI a b := by
  rcases cmpI_cases a b with ⟨e, h⟩ | ⟨e, h⟩ | ⟨e, h⟩ <;> rcases cmpI_cases b a with ⟨e2, h2⟩ | ⟨e2, h2⟩ | ⟨e2, h2⟩ <;> rw [e, e2] <;> first | rfl | (exfalso; omega)
theorem cmpL_neg (a b : Bytes) : cmpL b a = - cmpL a b := by
  rcases cmpL_cases a b with ⟨e, h⟩ | ⟨e, h⟩ | ⟨e, h⟩ <;> rcases cmpL_cases b a with ⟨e2, h2⟩ | ⟨e2, h2⟩ | ⟨e2, h2⟩ <;> rw [e, e2] <;> first | rfl | skip
  · rw [bl_asymm _ _ h] at h2; cases h2
  · rw [h2, bl_irrefl] at h; cases h
  · rw [h, bl_irrefl] at h2; cases h2
  · rw [h, bl_irrefl] at h2; cases h2
  · rw [h2, bl_irrefl] at h; cases h
  · rw [bl_asymm _ _ h] at h2; cases h2
theorem cmpP_or (a b : Prt) : cmpP a b = or3 (cmpI a.1 b.1) (if a.1 = 5 ∧ b.1 = 5 then cmpI a.2.length b.2.length else 0) (cmpL a.2 b.2) := by
  by_cases h : a.1 = 5 ∧ b.1 = 5
  · rw [cmpP_both h.1 h.2, if_pos h]
  · rw [cmpP_not h, if_neg h]
theorem or3_neg (a b c : Int) : or3 (-a) (-b) (-c) = - or3 a b c := by
  unfold or3
  by_cases h1 : a = 0 <;> by_cases h2 : b = 0 <;> simp [h1, h2]
theorem cmpP_neg (a b : Prt) : cmpP b a = - cmpP a b := by
  rw [cmpP_or, cmpP_or, ← or3_neg, cmpI_neg a.1 b.1, cmpL_neg a.2 b.2]
  congr 1
  by_cases h : a.1 = 5 ∧ b.1 = 5
  · rw [if_pos h, if_pos ⟨h.2, h.1⟩, cmpI_neg]
  · rw [if_neg h, if_neg (fun h2 => h ⟨h2.2, h2.1⟩)]; rfl
theorem or3_zero {a b c : Int} (h : or3 a b c = 0) : a = 0 ∧ c = 0 := by
  unfold or3 at h
  by_cases h1 : a = 0 <;> by_cases h2 : b = 0 <;> simp_all
theorem cmpP_zero {a b : Prt} (h : cmpP a b = 0) : a = b := by
  rw [cmpP_or] at h
  obtain ⟨h1, h2⟩ := or3_zero h
  have e1 : a.1 = b.1 := by rcases cmpI_cases a.1 b.1 with ⟨e, h3⟩ | ⟨e, h3⟩ | ⟨e, h3⟩ <;> simp_all
  have e2 : a.2 = b.2 := by rcases cmpL_cases a.2 b.2 with ⟨e, h3⟩ | ⟨e, h3⟩ | ⟨e, h3⟩ <;> simp_all
  exact Prod.ext e1 e2
theorem cmpP_self (a : Prt) : cmpP a a = 0 := by
  have := cmpP_neg a a; omega
theorem or3_cases {a b c : Int} (ha : a = -1 ∨ a = 0 ∨ a = 1) (hb : b = -1 ∨ b = 0 ∨ b = 1) (hc : c = -1 ∨ c = 0 ∨ c = 1) : or3 a b c = -1 ∨ or3 a b c = 0 ∨ or3 a b c = 1 := by
  unfold or3
  by_cases h1 : a = 0 <;> by_cases h2 : b = 0 <;> simp_all
theorem cmpI_three (a b : Int) : cmpI a b = -1 ∨ cmpI a b = 0 ∨ cmpI a b = 1 := by rcases cmpI_cases a b with ⟨e, _⟩ | ⟨e, _⟩ | ⟨e, _⟩ <;> simp [e]
theorem cmpL_three (a b : Bytes) : cmpL a b = -1 ∨ cmpL a b = 0 ∨ cmpL a b = 1 := by rcases cmpL_cases a b with ⟨e, _⟩ | ⟨e, _⟩ | ⟨e, _⟩ <;> simp [e]
theorem cmpP_cases (a b : Prt) : cmpP a b = -1 ∨ cmpP a b = 0 ∨ cmpP a b = 1 := by
  rw [cmpP_or]
  refine or3_cases (cmpI_three _ _) ?_ (cmpL_three _ _)
  by_cases h : a.1 = 5 ∧ b.1 = 5
  · rw [if_pos h]; exact cmpI_three _ _
  · rw [if_neg h]; simp
theorem glue_kinds {k : Int} {c : UInt8} (hk : k ≠ 2) : ∀ (l : Bytes) (r : List Prt), (∀ p ∈ r, p.1 ≠ 2) → ∀ p ∈ glue k c l r, p.1 ≠ 2
  | [], r, hr, p, hp => by
    simp only [glue, List.mem_cons] at hp
    rcases hp with rfl | hp
    · exact hk
    · exact hr p hp
  | d :: l, [], hr, p, hp => by
    simp only [glue, List.mem_cons] at hp
    rcases hp with rfl | hp
    · exact hk
    · exact hr p hp
  | d :: l, (j, t) :: r, hr, p, hp => by
    simp only [glue] at hp
    split at hp
    · simp only [List.mem_cons] at hp
      rcases hp with rfl | hp
      · exact hr (j, t) (by simp)
      · exact hr p (by simp [hp])
    · simp only [List.mem_cons] at hp
      rcases hp with rfl | hp
      · exact hk
      · exact hr p (by simpa using hp)
theorem kk_ne2 (c : UInt8) : kk c ≠ 2 := by unfold kk; rcases kd_cases c.toNat with h | h | h | h | h <;> rw [h] <;> decide
theorem raw_kinds : ∀ (l : Bytes), ∀ p ∈ raw l, p.1 ≠ 2
  | [], p, hp => by simp [raw] at hp
  | c :: l, p, hp => by
    rw [raw] at hp
    split at hp
    · exact raw_kinds l p hp
    split at hp
    · simp only [List.mem_cons] at hp
      rcases hp with rfl | hp
      · exact kk_ne2 c
      · exact raw_kinds l p hp
    · exact glue_kinds (kk_ne2 c) l (raw l) (raw_kinds l) p hp
theorem pts_kinds (l : Bytes) : ∀ p ∈ pts l, p.1 ≠ 2 := by
  intro p hp
  simp only [pts, List.mem_map] at hp
  obtain ⟨q, hq, rfl⟩ := hp
  exact raw_kinds l q hq
theorem atP_lt {l : List Prt} {k : Nat} (h : k < l.length) : atP l k = l[k] := by simp [atP, h]
theorem atP_ge {l : List Prt} {k : Nat} (h : l.length ≤ k) : atP l k = fin := by simp [atP, h]
theorem atP_at {l : List Prt} {k : Nat} (h : k ≤ l.length) (h2 : k < (l ++ [fin]).length) : (l ++ [fin])[k] = atP l k := by
  by_cases e : k < l.length
  · rw [List.getElem_append_left e, atP_lt e]
  · obtain rfl : k = l.length := by omega
    rw [atP_ge (Nat.le_refl _)]; simp
/-- one round of the document's loop -/
theorem comp_round {a b : Bytes} {k : Nat} (h1 : k ≤ (pts a).length) (h2 : k ≤ (pts b).length) (hc : comp a b = cmpV ((pts a ++ [fin]).drop k) ((pts b ++ [fin]).drop k)) :
    (cmpP (atP (pts a) k) (atP (pts b) k) ≠ 0 → comp a b = cmpP (atP (pts a) k) (atP (pts b) k)) ∧
    (cmpP (atP (pts a) k) (atP (pts b) k) = 0 → (k < (pts a).length ∨ k < (pts b).length) → k < (pts a).length ∧ k < (pts b).length ∧ comp a b = cmpV ((pts a ++ [fin]).drop (k + 1)) ((pts b ++ [fin]).drop (k + 1))) := by
  rw [cmpV_at (by simp; omega) (by simp; omega), atP_at h1, atP_at h2] at hc
  refine ⟨fun h => by rw [if_pos h] at hc; exact hc, fun h h3 => ?_⟩
  rw [if_neg (by simpa using h)] at hc
  have e := cmpP_zero h
  by_cases ha : k < (pts a).length <;> by_cases hb : k < (pts b).length
  · exact ⟨ha, hb, hc⟩
  · rw [atP_lt ha, atP_ge (by omega)] at e
    exact absurd (by rw [e]; rfl) (pts_kinds a _ (List.getElem_mem ha))
  · rw [atP_lt hb, atP_ge (by omega)] at e
    exact absurd (by rw [← e]; rfl) (pts_kinds b _ (List.getElem_mem hb))
  · omega
theorem comp_last {a b : Bytes} {k : Nat} (h1 : k = (pts a).length) (h2 : k = (pts b).length) (hc : comp a b = cmpV ((pts a ++ [fin]).drop k) ((pts b ++ [fin]).drop k)) : comp a b = 0 := by
  rw [hc]
  conv => lhs; arg 1; rw [h1, List.drop_left]
  rw [h2, List.drop_left]
  decide

/- Walks: how the document compares two versions. -/

/- Walks: how two EVRs compare, by the program and by the document. -/

structure Evr where
  epoch : Int
  ver : Bytes
  rel : Bytes
def Evr.val (e : Evr) : Value := .agg #[.int .i64 e.epoch, .string (bs e.ver), .string (bs e.rel)]
/-- HOW TWO EVRs COMPARE -/
def ecmp (a b : Evr) : Int := if cmpI a.epoch b.epoch ≠ 0 then cmpI a.epoch b.epoch else if comp a.ver b.ver ≠ 0 ∨ a.rel = [] ∨ b.rel = [] then comp a.ver b.ver else comp a.rel b.rel

def relC (a b : Evr) : Int := if a.rel = [] ∨ b.rel = [] then 0 else comp a.rel b.rel
/-- an EVR lies in a block of its own -/
def EBox (e : Evr) (B : Nat) (W : World) : Prop :=
  B < W.heap.size ∧ W.cell? ⟨B, 0, none⟩ = some (.int .i64 e.epoch) ∧ W.cell? ⟨B, 1, none⟩ = some (.string (bs e.ver)) ∧ W.cell? ⟨B, 2, none⟩ = some (.string (bs e.rel))
theorem EBox.below {e : Evr} {B n : Nat} {W W' : World} (h : EBox e B W) (hb : Below n W W') (hn : B < n) : EBox e B W' :=
  ⟨Nat.lt_of_lt_of_le h.1 hb.size, (hb.cell (p := ⟨B, 0, none⟩) hn).trans h.2.1, (hb.cell (p := ⟨B, 1, none⟩) hn).trans h.2.2.1, (hb.cell (p := ⟨B, 2, none⟩) hn).trans h.2.2.2⟩

theorem ecmp_or (a b : Evr) : ecmp a b = or3 (cmpI a.epoch b.epoch) (comp a.ver b.ver) (relC a b) := by
  unfold ecmp or3 relC
  by_cases h1 : cmpI a.epoch b.epoch = 0 <;> by_cases h2 : comp a.ver b.ver = 0 <;> by_cases h3 : a.rel = [] ∨ b.rel = [] <;> simp [h1, h2, h3]

def fnv (f A B : Nat) : Value := .func (.func f) #[] #[.pointer (some ⟨A, 0, none⟩), .pointer (some ⟨B, 0, none⟩)]
theorem new_ebox (w : World) (e : Evr) : EBox e w.heap.size (w.alloc (.cells #[.int .i64 e.epoch, .string (bs e.ver), .string (bs e.rel)] 24)) :=
  ⟨by simp, (World.cell?_alloc_at _ _ _ _ rfl).trans rfl, (World.cell?_alloc_at _ _ _ _ rfl).trans rfl, (World.cell?_alloc_at _ _ _ _ rfl).trans rfl⟩
/- Walks: how two EVRs compare, by the document. -/

theorem ecmp_lt {a b : Evr} (h : a.epoch < b.epoch) : ecmp a b = -1 := by unfold ecmp cmpI; simp [h]
theorem ecmp_gt {a b : Evr} (h : b.epoch < a.epoch) : ecmp a b = 1 := by
  have e : cmpI a.epoch b.epoch = 1 := by unfold cmpI; rw [if_neg (by omega), if_pos h]
  unfold ecmp; simp [e]
theorem ecmp_eq {a b : Evr} (h : a.epoch = b.epoch) : ecmp a b = if comp a.ver b.ver ≠ 0 ∨ a.rel = [] ∨ b.rel = [] then comp a.ver b.ver else comp a.rel b.rel := by
  have e : cmpI a.epoch b.epoch = 0 := by unfold cmpI; rw [if_neg (by omega), if_neg (by omega)]
  unfold ecmp; simp [e]

/- Walks: span by the document. -/

structure Dp where
  name : Bytes
  op : Int
  evr : Evr
def Dp.val (d : Dp) : Value := .agg #[.string (bs d.name), .int .u8 d.op, .int .i64 d.evr.epoch, .string (bs d.evr.ver), .string (bs d.evr.rel)]

/-- the bits of an Op -/
def band (n m : Int) : Int := bits BinOp.and IntKind.u8 n m
/-- the bit that an Op needs of what is less, the same, greater -/
def sideI (c : Int) : Int := if c < 0 then 1 else if c = 0 then 2 else 4
def hasP (d : Dp) (e : Evr) : Bool := d.op.tmod 8 == 0 || band d.op (sideI (ecmp e d.evr)) != 0
def Evr.ok (e : Evr) : Prop := e.ver.length ≤ 1000000 ∧ e.rel.length ≤ 1000000
theorem new_dbox (w : World) (d : Dp) (e : Evr) : let W := (w.alloc (.cells #[.string (bs d.name), .int .u8 d.op, .int .i64 d.evr.epoch, .string (bs d.evr.ver), .string (bs d.evr.rel)] 26)).alloc (.cells #[.int .i64 e.epoch, .string (bs e.ver), .string (bs e.rel)] 24)
    W.cell? ⟨w.heap.size, 1, none⟩ = some (.int .u8 d.op) ∧ w.heap.size < W.heap.size ∧ Below w.heap.size w W :=
  ⟨(World.cell?_alloc_past _ _ _ (by simp)).trans ((World.cell?_alloc_at _ _ _ _ rfl).trans rfl), by simp; omega, ((Below.refl _ _).alloc (Nat.le_refl _) _).alloc (by simp) _⟩

def meetP (a b : Dp) : Bool := a.op.tmod 8 == 0 || (b.op.tmod 8 == 0 || (let n := ecmp a.evr b.evr
  if n < 0 then band a.op 4 != 0 || band b.op 1 != 0 else if 0 < n then band a.op 1 != 0 || band b.op 4 != 0 else band (band a.op b.op) 7 != 0))
theorem new_2dbox (w : World) (d e : Dp) : let W := (w.alloc (.cells #[.string (bs d.name), .int .u8 d.op, .int .i64 d.evr.epoch, .string (bs d.evr.ver), .string (bs d.evr.rel)] 26)).alloc (.cells #[.string (bs e.name), .int .u8 e.op, .int .i64 e.evr.epoch, .string (bs e.evr.ver), .string (bs e.evr.rel)] 26)
    W.cell? ⟨w.heap.size, 1, none⟩ = some (.int .u8 d.op) ∧ W.cell? ⟨w.heap.size + 1, 1, none⟩ = some (.int .u8 e.op) ∧ w.heap.size + 1 < W.heap.size ∧ Below w.heap.size w W :=
  ⟨(World.cell?_alloc_past _ _ _ (by simp)).trans ((World.cell?_alloc_at _ _ _ _ rfl).trans rfl), (World.cell?_alloc_at _ _ _ _ (by simp)).trans rfl, by simp, ((Below.refl _ _).alloc (Nat.le_refl _) _).alloc (by simp) _⟩
end Go.Proofs.YtlfnihnegheaaaaDoor
