/- VmPlain, VmIter, VmRef, VmRefC, EvCmp, SpRef, RowOpen, RowLaid -/
import Derived.Test.YtnfagaccbkeikaaGreatDoorRichReadsRowG01
import Derived.Deep.QuietTactic
import Derived.BigQuiet
import Derived.RangeFuncNested
import Derived.RangeFuncBound
import Derived.RangeFuncCalls
import Derived.RangeFuncLeaves
import Derived.RangeFuncBox
import Derived.Shelf.Abstract
import Derived.Shelf.RegionOpen
import Derived.OwnWalkIn
import Derived.TacticsInMore
import Derived.LoopNIn
import Derived.LoopIn
import Derived.StillTailTactics
import Derived.RegionTactic
import Derived.ChangeAlike
import Derived.Sort.Walk0
import Derived.Deep.RegionWith
import Derived.Test.YtnfagaccbkeikaaGreatDoorRows
import Derived.ProofKit
import Derived.OpenShut
import Derived.ShutString
import Derived.ChangeOld
import Derived.SizedLaws
import Derived.SliceStrings
import Derived.ChangeSame
import Derived.Lib.SmallJoins
namespace Go.Proofs.YtnfagaccbkeikaaGreatDoor
section
/- The parts of a version, in plain terms. Nothing of the program here. -/


open Go.RowKit

abbrev Bytes := List UInt8
def bs (l : Bytes) : ByteArray := ⟨l.toArray⟩
theorem bs_toList (l : Bytes) : (bs l).toList = l := by rw [Lib.toList_data]; rfl
theorem bs_of (s : ByteArray) : bs s.toList = s := by rw [Lib.toList_data]; rfl
theorem bs_size (l : Bytes) : (bs l).size = l.length := by rw [← size_toList, bs_toList]
theorem bs_inj {a b : Bytes} (h : bs a = bs b) : a = b := by rw [← bs_toList a, h, bs_toList]
theorem bs_extract (s : ByteArray) (a b : Nat) : s.extract a b = bs ((s.toList.drop a).take (b - a)) := toList_inj (by rw [bs_toList, toList_extract])

/-- of which kind a byte is -/
def kd (n : Int) : Int := if n = 126 then 1 else if n = 94 then 3 else if (97 ≤ n ∧ n ≤ 122) ∨ (65 ≤ n ∧ n ≤ 90) then 4 else if 48 ≤ n ∧ n ≤ 57 then 5 else 0
def kk (c : UInt8) : Int := kd c.toNat
end
section
/- Walks: the iterator of vercmp: what it tells its loop, one behind the other. -/













open Go.RowKit Go.Shelf
attribute [local go_sem] Oper.semAt_some
theorem asked_wide {P : Program} {o : Oper} {a : Act} {C : World → Prop} : Oper.askedIn Fence.wide P o a C = True := by simp [Oper.askedIn, Fence.wide]
attribute [local go_sem ↓ high] asked_wide

/-- behind the run's first byte at k the next m bytes are of it, and what is of it behind these is of it all -/
def Upto (p : UInt8 → Bool) (s : ByteArray) (k m : Nat) : Prop := (s.toList.drop (k + 1)).takeWhile p = (s.toList.drop (k + 1)).take m ++ (s.toList.drop (k + 1 + m)).takeWhile p
def Done (p : UInt8 → Bool) (s : ByteArray) (k m : Nat) : Prop := (s.toList.drop (k + 1)).takeWhile p = (s.toList.drop (k + 1)).take m
theorem Upto.next {p : UInt8 → Bool} {s : ByteArray} {k m : Nat} (h : Upto p s k m) (hlt : k + 1 + m < s.size) : (p s[k + 1 + m] = true → Upto p s k (m + 1)) ∧ (p s[k + 1 + m] = false → Done p s k m) := by
  unfold Upto at h
  rw [toList_drop s (k + 1 + m) hlt] at h
  constructor
  · intro g
    unfold Upto
    rw [List.takeWhile_cons_of_pos g] at h
    rw [h, take_snoc _ m (by rw [List.length_drop, size_toList]; omega)]
    rw [List.getElem_drop, toList_get s (k + 1 + m) hlt, List.append_assoc, List.singleton_append]; rfl
  · intro g
    rw [List.takeWhile_cons_of_neg (by simp [g]), List.append_nil] at h
    exact h
theorem Upto.last {p : UInt8 → Bool} {s : ByteArray} {k m : Nat} (h : Upto p s k m) (hm : k + 1 + m = s.size) : Done p s k m := by
  unfold Upto at h
  rw [List.drop_of_length_le (i := k + 1 + m) (by rw [size_toList]; omega)] at h
  simpa [Done] using h
theorem Done.cut {p : UInt8 → Bool} {s : ByteArray} {k m : Nat} (h : Done p s k m) (hlt : k < s.size) : s.extract k (k + 1 + m) = bs (s[k] :: (s.toList.drop (k + 1)).takeWhile p) := by
  rw [bs_extract, h, toList_drop s k hlt]
  rw [show k + 1 + m - k = m + 1 from by omega, List.take_succ_cons]
theorem Done.len {p : UInt8 → Bool} {s : ByteArray} {k m : Nat} (h : Done p s k m) (hm : k + 1 + m ≤ s.size) : ((s.toList.drop (k + 1)).takeWhile p).length = m := by
  rw [h, List.length_take, List.length_drop, size_toList]; omega
theorem Done.rest {p : UInt8 → Bool} {s : ByteArray} {k m : Nat} (h : Done p s k m) (hm : k + 1 + m ≤ s.size) : (s.toList.drop (k + 1)).dropWhile p = s.toList.drop (k + 1 + m) := by
  have h1 := List.takeWhile_append_dropWhile (p := p) (l := s.toList.drop (k + 1))
  have h2 : (s.toList.drop (k + 1)).dropWhile p = (s.toList.drop (k + 1)).drop ((s.toList.drop (k + 1)).takeWhile p).length := by
    have h3 : ∀ (a b c : Bytes), a ++ b = c → b = c.drop a.length := by
      intro a b c e
      rw [← e, List.drop_left]
    exact h3 _ _ _ h1
  rw [h2, h.len hm, List.drop_drop]
theorem grown_below {w w' : World} (h : Below w.heap.size w w') : w.grownBy w' none := ⟨h.os, h.tape, h.output, h.size, fun k hk _ => h.block k hk⟩
/-- the round's own part lies in a block of its own -/
def PartAt (w : World) (Bs : Nat) (s : ByteArray) (v : Int) (A : World) : Prop :=
  A.cell? ⟨Bs, 0, none⟩ = some (.string s) ∧ A.cell? ⟨w.heap.size, 0, none⟩ = some (.int .u8 v) ∧ A.cell? ⟨w.heap.size, 1, none⟩ = some (.string ⟨#[]⟩) ∧
    A.frozen? ⟨w.heap.size, 1, none⟩ = false ∧ Below w.heap.size w A
theorem PartAt.drewN {w : World} {Bs : Nat} {s : ByteArray} {v : Int} {A : World} (h : PartAt w Bs s v A) (n : Nat) : PartAt w Bs s v (A.drewN n) := ⟨h.1, h.2.1, h.2.2.1, h.2.2.2.1, h.2.2.2.2.trans ⟨rfl, rfl, rfl, Nat.le_refl _, fun _ _ => rfl⟩⟩
end
section
/- Walks: the document's answer for vercmp. -/




open Go.RowKit Go.Shelf

/-- of what stands at k on, the next m bytes are of the run, and what is of it behind these is of it all -/
def Up (p : UInt8 → Bool) (s : ByteArray) (k m : Nat) : Prop := (s.toList.drop k).takeWhile p = (s.toList.drop k).take m ++ (s.toList.drop (k + m)).takeWhile p
def Dn (p : UInt8 → Bool) (s : ByteArray) (k m : Nat) : Prop := (s.toList.drop k).takeWhile p = (s.toList.drop k).take m
theorem Up.next {p : UInt8 → Bool} {s : ByteArray} {k m : Nat} (h : Up p s k m) (hlt : k + m < s.size) : (p s[k + m] = true → Up p s k (m + 1)) ∧ (p s[k + m] = false → Dn p s k m) := by
  unfold Up at h
  rw [toList_drop s (k + m) hlt] at h
  constructor
  · intro g
    unfold Up
    rw [List.takeWhile_cons_of_pos g] at h
    rw [h, take_snoc _ m (by rw [List.length_drop, size_toList]; omega)]
    rw [List.getElem_drop, toList_get s (k + m) hlt, List.append_assoc, List.singleton_append]; rfl
  · intro g
    rw [List.takeWhile_cons_of_neg (by simp [g]), List.append_nil] at h
    exact h
theorem Up.last {p : UInt8 → Bool} {s : ByteArray} {k m : Nat} (h : Up p s k m) (hm : k + m = s.size) : Dn p s k m := by
  unfold Up at h
  rw [List.drop_of_length_le (i := k + m) (by rw [size_toList]; omega)] at h
  simpa [Dn] using h
theorem Dn.rest {p : UInt8 → Bool} {s : ByteArray} {k m : Nat} (h : Dn p s k m) (hm : k + m ≤ s.size) : (s.toList.drop k).dropWhile p = s.toList.drop (k + m) := by
  have h1 := List.takeWhile_append_dropWhile (p := p) (l := s.toList.drop k)
  have h2 : (s.toList.drop k).dropWhile p = (s.toList.drop k).drop ((s.toList.drop k).takeWhile p).length := by
    have h3 : ∀ (a b c : Bytes), a ++ b = c → b = c.drop a.length := by
      intro a b c e
      rw [← e, List.drop_left]
    exact h3 _ _ _ h1
  rw [h2, h, List.length_take, List.length_drop, size_toList, List.drop_drop, Nat.min_eq_left (by omega)]
end
section
/- Walks: how the document compares two versions: the same as the program does. -/



open Go.RowKit Go.Shelf

def Bx2 (w : World) (ka kb : Int) (ta tb : Bytes) (A : World) : Prop :=
  A.cell? ⟨w.heap.size, 0, none⟩ = some (.int .u8 ka) ∧ A.cell? ⟨w.heap.size, 1, none⟩ = some (.string (bs ta)) ∧ A.cell? ⟨w.heap.size + 1, 0, none⟩ = some (.int .u8 kb) ∧ A.cell? ⟨w.heap.size + 1, 1, none⟩ = some (.string (bs tb)) ∧ Below w.heap.size w A
theorem Bx2.drewN {w : World} {ka kb : Int} {ta tb : Bytes} {A : World} (h : Bx2 w ka kb ta tb A) (n : Nat) : Bx2 w ka kb ta tb (A.drewN n) := ⟨h.1, h.2.1, h.2.2.1, h.2.2.2.1, h.2.2.2.2.trans ⟨rfl, rfl, rfl, Nat.le_refl _, fun _ _ => rfl⟩⟩
/- the order of parts -/
end
section
/- Walks: how two EVRs compare, by the program and by the document. -/


open Go.RowKit Go.Shelf

structure Evr where
  epoch : Int
  ver : Bytes
  rel : Bytes
def Evr.val (e : Evr) : Value := .agg #[.int .i64 e.epoch, .string (bs e.ver), .string (bs e.rel)]
/-- an EVR lies in a block of its own -/
def EBox (e : Evr) (B : Nat) (W : World) : Prop :=
  B < W.heap.size ∧ W.cell? ⟨B, 0, none⟩ = some (.int .i64 e.epoch) ∧ W.cell? ⟨B, 1, none⟩ = some (.string (bs e.ver)) ∧ W.cell? ⟨B, 2, none⟩ = some (.string (bs e.rel))
theorem EBox.below {e : Evr} {B n : Nat} {W W' : World} (h : EBox e B W) (hb : Below n W W') (hn : B < n) : EBox e B W' :=
  ⟨Nat.lt_of_lt_of_le h.1 hb.size, (hb.cell (p := ⟨B, 0, none⟩) hn).trans h.2.1, (hb.cell (p := ⟨B, 1, none⟩) hn).trans h.2.2.1, (hb.cell (p := ⟨B, 2, none⟩) hn).trans h.2.2.2⟩
end
section
/- Walks: span by the document. -/


open Go.RowKit Go.Shelf

structure Dp where
  name : Bytes
  op : Int
  evr : Evr
def Dp.val (d : Dp) : Value := .agg #[.string (bs d.name), .int .u8 d.op, .int .i64 d.evr.epoch, .string (bs d.evr.ver), .string (bs d.evr.rel)]

set_option maxRecDepth 100000 in
set_option maxHeartbeats 2000000 in
theorem rmay_any (n : Int) (w : World) : Calls Tryz.prog 135 #[.int .u8 n] w fun e w' => e = .returned (.bool (n == 0 || n == 1 || n == 2 || n == 3 || n == 4 || n == 6)) ∧ w = w' := by
  go_enter Tryz.func135, Tryz.ntmps135
  go_wp2
  all_goals (go_ret; exact ⟨ret_bool (by simp [*]), rfl⟩)
def Evr.ok (e : Evr) : Prop := e.ver.length ≤ 1000000 ∧ e.rel.length ≤ 1000000
end
section
/- How the arguments of a statement are opened: strings, integers, slices of strings, as the form's reading gives them. -/









open Go.ChangeShapes Go.WideShapes Go.ChangeAt Go.RowKit

theorem own : ownKnob Tryz.prog.godebug = none := by kernel_rfl
theorem laidOut : laidOutB Tryz.prog = true := by kernel_rfl

section
variable {H : Type} {enc : TypeId × Value → H} {P : Program} {W : World} {held : Bool} {t e : TypeId} {d : DataW H} {p : List MemPlace}

theorem arg_string {r : Reach} {b0 : Nat} {v : Value} {sp : Nat → Bool} (ht : P.underlying t = some .string) (hval : Value.okWide P W r b0 t v) (h : DataW.Trod enc P W 0 sp held t v d p) :
    ∃ s : ByteArray, v = .string s ∧ d = .lit (.string s.data.toList) ∧ s.size ≤ maxLen := by
  obtain ⟨s, h1, h2, _, h4⟩ := Go.ChangeMaps.open_string ht hval h
  exact ⟨s, h1, h2, h4⟩
end
end
section
/- How the arguments of the tied statements are opened: EVRs, dependencies. -/





open Go.ChangeShapes Go.WideShapes Go.ChangeAt Go.RowKit

def Evr.wf (e : Evr) : Prop := (Lit.int .i64 e.epoch).wf = true ∧ e.ver.length ≤ maxLen ∧ e.rel.length ≤ maxLen
def Dp.wf (d : Dp) : Prop := d.name.length ≤ maxLen ∧ (Lit.int .u8 d.op).wf = true ∧ d.evr.wf

section
variable {H : Type} {enc : TypeId × Value → H} {P : Program} {W : World} {held : Bool} {t ti ts tu te : TypeId} {f0 f1 f2 g0 g1 g2 : Field} {d : DataW H} {p : List MemPlace}

end
end
end Go.Proofs.YtnfagaccbkeikaaGreatDoor
