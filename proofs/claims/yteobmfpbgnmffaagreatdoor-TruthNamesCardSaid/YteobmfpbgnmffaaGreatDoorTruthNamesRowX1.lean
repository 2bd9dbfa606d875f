import Derived.Test.YteobmfpbgnmffaaGreatDoorTruthMoreRowG01
import Derived.Test.YteobmfpbgnmffaaGreatDoorTruthMoreRowG02
import Derived.Test.YteobmfpbgnmffaaGreatDoorTruthMoreRowG03
import Derived.Test.YteobmfpbgnmffaaGreatDoorTruthMoreRowG04
import Derived.Test.YteobmfpbgnmffaaGreatDoorTruthMoreRowG05
import Derived.Test.YteobmfpbgnmffaaGreatDoorTruthMoreRowG06
import Derived.Test.YteobmfpbgnmffaaGreatDoorTruthMoreRowG07
import Derived.Test.YteobmfpbgnmffaaGreatDoorTruthMoreRowG08
import Derived.Test.YteobmfpbgnmffaaGreatDoorTruthMoreRowG09
import Derived.Test.YteobmfpbgnmffaaGreatDoorTruthMoreRowG10
import Derived.Test.YteobmfpbgnmffaaGreatDoorTruthMoreRowG11
import Derived.Test.YteobmfpbgnmffaaGreatDoorTruthMoreRowG12
import Derived.Test.YteobmfpbgnmffaaGreatDoorTruthMoreRowG13
import Derived.Test.YteobmfpbgnmffaaGreatDoorTruthMoreRowG14
import Derived.Test.YteobmfpbgnmffaaGreatDoorTruthMoreRowG15
import Derived.Test.YteobmfpbgnmffaaGreatDoorTruthMoreRowG16
import Derived.Test.YteobmfpbgnmffaaGreatDoorTruthMoreRowG17
import Derived.Test.YteobmfpbgnmffaaGreatDoorTruthMoreRowG18
import Derived.Test.YteobmfpbgnmffaaGreatDoorTruthMoreRowG19
import Derived.Test.YteobmfpbgnmffaaGreatDoorTruthMoreRowG20
import Derived.Test.YteobmfpbgnmffaaGreatDoorTruthMoreRowG21
import Derived.Test.YteobmfpbgnmffaaGreatDoorTruthMoreRowG22
import Derived.Test.YteobmfpbgnmffaaGreatDoorTruthMoreRowG23
import Derived.Test.YteobmfpbgnmffaaGreatDoorTruthMoreRowG24
import Derived.Test.YteobmfpbgnmffaaGreatDoorTruthMoreRowG25
import Derived.Test.YteobmfpbgnmffaaGreatDoorTruthMoreRowG26
import Derived.Test.YteobmfpbgnmffaaGreatDoorTruthMoreRowG27
import Derived.Test.YteobmfpbgnmffaaGreatDoorTruthMoreRowG28
import Derived.Test.YteobmfpbgnmffaaGreatDoorTruthMoreRowG29
import Derived.Test.YteobmfpbgnmffaaGreatDoorTruthMoreRowG30
import Derived.Test.YteobmfpbgnmffaaGreatDoorTruthMoreRowG31
import Derived.Test.YteobmfpbgnmffaaGreatDoorTruthMoreRowG32
import Derived.Test.YteobmfpbgnmffaaGreatDoorTruthMoreRowG33
import Derived.Test.YteobmfpbgnmffaaGreatDoorTruthMoreRowG34
import Derived.Test.YteobmfpbgnmffaaGreatDoorTruthMoreRowG35
import Derived.Test.YteobmfpbgnmffaaGreatDoorTruthMoreRowG36
import Derived.Test.YteobmfpbgnmffaaGreatDoorTruthMoreRowG37
import Derived.Test.YteobmfpbgnmffaaGreatDoorTruthMoreRowG38
import Derived.Test.YteobmfpbgnmffaaGreatDoorTruthMoreRowG39
import Derived.Test.YteobmfpbgnmffaaGreatDoorTruthMoreRowG40
import Derived.Test.YteobmfpbgnmffaaGreatDoorTruthMoreRowG41
import Derived.WalkKit
import Derived.WalkSpells
import Derived.WalkLawsBesides
import Derived.Deep.AppendLies
import Derived.Deep.Draws
import Derived.Lib.Hide
import Derived.Lib.Strings
import Derived.Maps.AppendAt
import Derived.Deep.QuietTactic
import Derived.BigQuiet
import Derived.RangeFuncNested
import Derived.RangeFuncBound
import Derived.RangeFuncCalls
import Derived.RangeFuncLeaves
import Derived.RangeFuncBox
import Derived.Shelf.Abstract
import Derived.Shelf.RegionOpen
import Derived.OwnWalkIn
import Derived.TacticsInMore
import Derived.LoopNIn
import Derived.LoopIn
import Derived.StillTailTactics
import Derived.RegionTactic
import Derived.ChangeAlike
import Derived.Sort.Walk0
import Derived.Deep.RegionWith
import Derived.ProofKit
import Derived.OpenShut
import Derived.ShutString
import Derived.ChangeOld
import Derived.SizedLaws
import Derived.SliceStrings
import Derived.ChangeSame
import Derived.Lib.SmallJoins
import Derived.Lib.SplitLaws
import Derived.Lib.ItoaNum
import Derived.Lib.AtoiAll
import Derived.Lib.IndexMore
import Derived.Lib.AppendIntMem
import Derived.Deep.RegionHeld3
import Derived.Maps.RangeWalk
import Derived.Maps.StringElems
import Derived.Maps.OwnOps
import Derived.Lib.Split
import Derived.Lib.Join
import Derived.Laws.RangeAny
import Derived.Deep.RegionLaw
import Derived.Laws.IdiomStrings
import Derived.Shelf.Strings.BuilderX
import Derived.Lib.Builder
import Derived.Lib.AppendStr
import Derived.Lib.UnsafeStr
import Derived.Laws.Externs
import Derived.Defers
import Derived.Recover
import Derived.Orders
import Derived.OrdersHeld
import Derived.ArgAppend
import Derived.Laws.EntriesVeiled
import Derived.Deep.Cut
import Derived.Deep.WholeRow
import Derived.Maps.GroupsBeside
import Derived.Maps.OwnSet
import Derived.Laws.MakeOwn
import Derived.Lib.SliceRun
import Derived.Lay
import Derived.LaidMore
import Derived.LaidLaws
import Derived.Lib.LaidIn
import Derived.Lib.LaidU8
import Derived.Lib.LaidTab
import Derived.JoinedOf
import Derived.SevenTiedAt
set_option linter.unusedSimpArgs false
set_option linter.unusedVariables false
/- TrMeas -/
set_option linter.unusedSimpArgs false
set_option linter.unusedVariables false
/- Walks: is a rich dependency whole (rich.measure, rich.Whole). -/


namespace Go.Proofs.YteobmfpbgnmffaaGreatDoor
open Go.RowKit Go.Shelf
set_option linter.unusedVariables false

theorem whole_okB {t : RT} (h : t.whole = true) : t.okB = true := by unfold RT.whole at h; simp only [Bool.and_eq_true] at h; exact h.1
end Go.Proofs.YteobmfpbgnmffaaGreatDoor

/- TrWho, TrSm, TrAw0 -/
set_option linter.unusedSimpArgs false
set_option linter.unusedVariables false
namespace Go.Proofs.YteobmfpbgnmffaaGreatDoor
section
/- Walks: whether a package alone satisfies it, and who does (truth: Alone, Who). -/


open Go.RowKit Go.Shelf
set_option linter.unusedVariables false

set_option maxRecDepth 100000 in
set_option maxHeartbeats 16000000 in
theorem talone_any {T X N : Nat} {L : List Pk} {w : World} (hT : TruthAt T X N L w) (hI : WhIn w) (n : Int) (R : RV) (hR : RTree w.heap.size w R) (hp : R.tree.parts ≤ 1000000) :
  Calls Tryz.prog 43 #[.pointer (some ⟨T, 0, none⟩), .int .i64 n, R.val] w fun e w' => e = .returned (.bool (Tr.aloneS N (pvL L) n R.tree)) ∧ Below w.heap.size w w' := by
 have b1 := (Below.refl w.heap.size w).alloc (Nat.le_refl _) (.cells #[.int .u8 R.kind, .string (bs R.dep.name), .int .u8 R.dep.op, .int .i64 R.dep.evr.epoch, .string (bs R.dep.evr.ver), .string (bs R.dep.evr.rel), .slice R.addr R.args.length R.cap] 39)
 have RB := RBx.new R w
 have SA := Lib.hid (fun W b (hb : Below w.heap.size w W) (hr : Rd encI 1 W.heap.size (some ⟨b, 0, none⟩) 1 [n] W) => tsat_any (hT.then hb) (hI.below hb) (some ⟨b, 0, none⟩) 1 [n] hr R ((hR.keeps hb).more hb.size) hp)
 have t1 := (hT.then b1).c1
 obtain ⟨res, hres⟩ : ∃ res, res = Tr.aloneS N (pvL L) n R.tree := ⟨_, rfl⟩
 rw [← hres]
 unfold Tr.aloneS at hres
 have HRS := Lib.hid hres
 have B1 := Lib.hid b1
 have RBV := Lib.hid RB
 clear hT hI hR hp hres
 generalize Tr.satS N (pvL L) [n] R.tree = r at *
 unfold RV.val at *
 clear b1 RB
 by_cases h0 : 0 ≤ n
 ·by_cases h1 : n < (N : Int)
  ·have HE := Lib.hid (show res = r from by rw [HRS.out, decide_eq_true h0, decide_eq_true h1]; rfl)
   have bx := RBV.out.then ((Below.refl _ _).alloc (Nat.le_refl _) (.cells #[.int .i64 n] 3))
   obtain ⟨_, c0, c1, c2, c3, c4, c5, c6⟩ := bx
   have BA := Lib.hid (B1.out.alloc B1.out.size (.cells #[.int .i64 n] 3))
   have SB := Lib.hid (SA.out _ (w.heap.size + 1) BA.out (by have q := rd_int (x := n) (g := (w.alloc (.cells #[.int .u8 R.kind, .string (bs R.dep.name), .int .u8 R.dep.op, .int .i64 R.dep.evr.epoch, .string (bs R.dep.evr.ver), .string (bs R.dep.evr.rel), .slice R.addr R.args.length R.cap] 39)).heap.size) (W := (w.alloc (.cells #[.int .u8 R.kind, .string (bs R.dep.name), .int .u8 R.dep.op, .int .i64 R.dep.evr.epoch, .string (bs R.dep.evr.ver), .string (bs R.dep.evr.rel), .slice R.addr R.args.length R.cap] 39)).alloc (.cells #[.int .i64 n] 3)) (by simp) ((World.cell?_alloc_at _ _ _ _ rfl).trans rfl); rw [World.size_alloc (w := w)] at q; exact q))
   rw [show [n].length = 1 from rfl] at SB
   clear SA RBV
   go_enter Tryz.func43, Tryz.ntmps43
   go_wp2_with fail
   go_at_call 40
   refine SB.out.mono ?_
   rintro en w2 ⟨rfl, h⟩
   have B2 := Lib.hid (BA.out.trans (h.mono BA.out.size))
   clear h
   go_wp2_with fail
   go_ret
   exact ⟨by rw [HE.out]; rfl, B2.out⟩
  ·have HE := Lib.hid (show res = false from by rw [HRS.out, decide_eq_true h0, decide_eq_false h1]; rfl)
   clear SA
   go_enter Tryz.func43, Tryz.ntmps43
   go_wp2_with fail
   go_ret
   exact ⟨by rw [HE.out]; rfl, B1.out⟩
 ·have HE := Lib.hid (show res = false from by rw [HRS.out, decide_eq_false h0]; rfl)
  clear SA
  go_enter Tryz.func43, Tryz.ntmps43
  go_wp2_with fail
  go_ret
  exact ⟨by rw [HE.out]; rfl, B1.out⟩
set_option maxRecDepth 100000 in
theorem fld_in (T rb N : Nat) (w : World) : (Instr.field 145 (.agg #[.pointer (some ⟨T, 0, none⟩), .slice (some ⟨rb, 0, none⟩) N N]) 1).run Tryz.prog w = .ok (.slice (some ⟨rb, 0, none⟩) N N) w := by
 first | rfl | kernel_rfl | simp [go_sem]
def whoK (N : Nat) (pv : Nat → Dp → Bool) (S : List Int) (t : RT) (k : Nat) : List Int := ((List.range k).filter fun n => St.inS S n && Tr.aloneS N pv (n : Int) t).map fun n : Nat => (n : Int)
theorem whoK_succ {N : Nat} {pv : Nat → Dp → Bool} {S : List Int} {t : RT} (k : Nat) : whoK N pv S t (k + 1) = whoK N pv S t k ++ (if St.inS S k && Tr.aloneS N pv (k : Int) t then [(k : Int)] else []) := by
 unfold whoK
 rw [List.range_succ, List.filter_append, List.map_append]
 congr 1
 rw [List.filter_cons]
 split <;> rfl
theorem whoK_len {N : Nat} {pv : Nat → Dp → Bool} {S : List Int} {t : RT} (k : Nat) : (whoK N pv S t k).length ≤ k := by
 unfold whoK
 rw [List.length_map]
 have := List.length_filter_le (fun n : Nat => St.inS S n && Tr.aloneS N pv (n : Int) t) (List.range k)
 rwa [List.length_range] at this
set_option maxRecDepth 100000 in
set_option maxHeartbeats 16000000 in
theorem twho_any {T X N : Nat} {L : List Pk} {w : World} (hT : TruthAt T X N L w) (hI : WhIn w) (A : Option Addr) (c : Nat) (S : List Int) (hS : Rd encI 1 w.heap.size A c S w) (R : RV) (hR : RTree w.heap.size w R) (hp : R.tree.parts ≤ 1000000) :
  Calls Tryz.prog 41 #[.pointer (some ⟨T, 0, none⟩), .slice A S.length c, R.val] w fun e w' => ∃ v, e = .returned v ∧ Own encI 1 w.heap.size 3 v (Tr.whoS N (pvL L) S R.tree) w' ∧ Below w.heap.size w w' := by
 have b1 := (Below.refl w.heap.size w).alloc (Nat.le_refl _) (.cells #[.int .u8 R.kind, .string (bs R.dep.name), .int .u8 R.dep.op, .int .i64 R.dep.evr.epoch, .string (bs R.dep.evr.ver), .string (bs R.dep.evr.rel), .slice R.addr R.args.length R.cap] 39)
 have RB := RBx.new R w
 have AL := Lib.hid (fun (n : Int) W (hb : Below w.heap.size w W) => talone_any (hT.then hb) (hI.below hb) n R ((hR.keeps hb).more hb.size) hp)
 have ST := Lib.hid (fun W (hb : Below w.heap.size w W) => state_any (hT.then hb) A c S ((hS.below hb).more hb.size))
 have hN := hT.hN
 have WS := Lib.hid (fun k => whoK_succ (N := N) (pv := pvL L) (S := S) (t := R.tree) k)
 have WL := Lib.hid (fun k => whoK_len (N := N) (pv := pvL L) (S := S) (t := R.tree) k)
 have WE := Lib.hid (show whoK N (pvL L) S R.tree N = Tr.whoS N (pvL L) S R.tree from rfl)
 have W0 := Lib.hid (show whoK N (pvL L) S R.tree 0 = [] from rfl)
 generalize Tr.whoS N (pvL L) S R.tree = ws at *
 obtain ⟨i0, hi, hz0, hz1, hz2⟩ := info_parts infoIntX
 have B1 := Lib.hid b1
 have RBV := Lib.hid RB
 clear hT hI hS hR hp b1 RB
 unfold RV.val at *
 generalize S.length = m at *
 go_enter Tryz.func41, Tryz.ntmps41
 go_wp2_with fail
 obtain ⟨V, hV⟩ : ∃ V, V = w.alloc (.cells #[.int .u8 R.kind, .string (bs R.dep.name), .int .u8 R.dep.op, .int .i64 R.dep.evr.epoch, .string (bs R.dep.evr.ver), .string (bs R.dep.evr.rel), .slice R.addr R.args.length R.cap] 39) := ⟨_, rfl⟩
 rw [← hV] at B1 RBV ⊢
 clear hV
 go_at_call 94
 refine (ST.out V B1.out).mono ?_
 rintro en W1 ⟨rb, rfl, hask, _, h⟩
 have B2 := Lib.hid (B1.out.trans (h.mono B1.out.size))
 have R2 := Lib.hid (RBV.out.then h)
 have AK := Lib.hid hask
 clear h hask B1 RBV ST
 unfold askW
 have hfl := fld_in T rb N
 go_wp2_with fail
 go_loopw [7, 17] (fun v iv wr => ∃ k : Nat, k ≤ N ∧ iv = .int .i64 (k : Int) ∧ Own encI 1 W1.heap.size 3 v (whoK N (pvL L) S R.tree k) wr ∧ Below W1.heap.size W1 wr) (fun _ iv _ => N - (intOf iv).toNat)
 case atStart => exact ⟨0, Nat.zero_le _, rfl, by rw [W0.out]; exact Own.nil_ _ _ _, Below.refl _ _⟩
 case round =>
  obtain ⟨k, hk, rfl, how, hB1⟩ := hrel
  rename World => wr
  have OW := Lib.hid how
  have HB1 := Lib.hid hB1
  have HB := Lib.hid (B2.out.trans (hB1.mono B2.out.size))
  have RW := Lib.hid (R2.out.then hB1)
  have AW := Lib.hid (AK.out.then hB1)
  clear how hB1
  by_cases hlt : k < N
  ·have r0 := (AW.out.row k hlt).1
   have WK := Lib.hid (WS.out k)
   have WKL := Lib.hid (WL.out k)
   have ALK := Lib.hid (AL.out (k : Int) wr HB.out)
   have i0' : (0 : Int) ≤ (k : Int) := by omega
   have i1 : (k : Int) < (N : Int) := by omega
   generalize St.inS S k = fk at *
   generalize Tr.aloneS N (pvL L) (k : Int) R.tree = ak at *
   cases fk
   ·have WK2 := Lib.hid (show whoK N (pvL L) S R.tree (k + 1) = whoK N (pvL L) S R.tree k from by rw [WK.out]; simp)
    clear ALK WK
    go_wp2_with fail
    go_roundw
    case rel => exact ⟨k + 1, by omega, by go_num, by rw [WK2.out]; exact OW.out, HB1.out⟩
    case measure => simp [intOf]; omega
   ·obtain ⟨_, c0, c1, c2, c3, c4, c5, c6⟩ := RW.out
    go_wp2_with fail
    go_at_call 43
    refine ALK.out.mono ?_
    rintro en w9 ⟨rfl, h⟩
    have OW9 := Lib.hid (Own.below OW.out h (Nat.le_refl _))
    have HB9 := Lib.hid (HB.out.trans (h.mono HB.out.size))
    have HC9 := Lib.hid (HB1.out.trans (h.mono HB1.out.size))
    clear h OW ALK c0 c1 c2 c3 c4 c5 c6 r0
    cases ak
    ·have WK2 := Lib.hid (show whoK N (pvL L) S R.tree (k + 1) = whoK N (pvL L) S R.tree k from by rw [WK.out]; simp)
     clear WK
     go_wp2_with fail
     go_roundw
     case rel => exact ⟨k + 1, by omega, by go_num, by rw [WK2.out]; exact OW9.out, HC9.out⟩
     case measure => simp [intOf]; omega
    ·have WK2 := Lib.hid (show whoK N (pvL L) S R.tree (k + 1) = whoK N (pvL L) S R.tree k ++ [(k : Int)] from by rw [WK.out]; simp)
     have HW1 := Lib.hid (show w.heap.size ≤ W1.heap.size from B2.out.size)
     clear WK
     go_wp2_with (at_builtin; refine wpList_append_own _ rfl _ _ 42 rfl W1.heap.size 3 i0 (.int .i64 0) 1 8 Tryz.underlying42 hi hz0 hz1 hz2 rfl (by decide) _ _ _ rfl (World.ownsRow.alloc OW9.out _) ⟨w9.heap.size, 0, none⟩ 1 1 [.int .i64 (k : Int)] rfl rfl ?c1 ?c2 ?c3 ?c4 ?c5 ?c6)
     case c1 => exact cell_one_new _ _ _
     case c2 => simp [Value.oneCell']
     case c3 => have := WKL.out; unfold maxLen; omega
     case c4 => have := WKL.out; omega
     case c5 => simp only [World.size_alloc]; have := HC9.out.size; omega
     case c6 =>
      intro v' w6 ho6 hg6 _
      have OV6 := Lib.hid (Own.snoc (x := (k : Int)) ho6)
      have B6 := Lib.hid ((HC9.out.alloc HC9.out.size _).grown hg6 (by simp only [World.size_alloc]; have := HC9.out.size; omega) (fun j hj => (World.ownsRow.lt OW9.out j hj).1))
      clear ho6 hg6
      go_wp2_with fail
      go_roundw
      case rel => exact ⟨k + 1, by omega, by go_num, by rw [WK2.out]; exact OV6.out, B6.out⟩
      case measure => simp [intOf]; omega
  ·obtain rfl : k = N := by omega
   have i1 : ¬ (k : Int) < (k : Int) := by omega
   have OWE := Lib.hid (WE.out ▸ OW.out)
   clear OW
   go_wp2_with fail
   go_ret
   exact ⟨_, rfl, OWE.out.more B2.out.size, HB.out⟩
end
section
/- Walks: the small functions of truth's statements. -/




open Go.RowKit Go.Shelf
set_option linter.unusedVariables false

set_option maxRecDepth 100000 in
set_option maxHeartbeats 16000000 in
theorem atom14_any (s : ByteArray) (w : World) : Calls Tryz.prog 58 #[.string s] w fun r w' => r = .returned (.agg #[.int .u8 1, .string s, .int .u8 0, .int .i64 0, .string ⟨#[]⟩, .string ⟨#[]⟩, .slice none 0 0]) ∧ Below w.heap.size w w' := by
 go_enter Tryz.func58, Tryz.ntmps58
 go_wp2_with fail
 exact bodyPost_ret (v := .agg #[.int .u8 1, .string s, .int .u8 0, .int .i64 0, .string ⟨#[]⟩, .string ⟨#[]⟩, .slice none 0 0]) (by simp [results, Tryz.results58, go_sem]) rfl ⟨rfl, (Below.refl _ _).alloc (Nat.le_refl _) _⟩
set_option maxRecDepth 100000 in
set_option maxHeartbeats 16000000 in
theorem of14_any (k : Int) (A : Option Addr) (n c : Nat) (w : World) : Calls Tryz.prog 44 #[.int .u8 k, .slice A n c] w fun r w' => r = .returned (.agg #[.int .u8 k, .string ⟨#[]⟩, .int .u8 0, .int .i64 0, .string ⟨#[]⟩, .string ⟨#[]⟩, .slice A n c]) ∧ Below w.heap.size w w' := by
 go_enter Tryz.func44, Tryz.ntmps44
 go_wp2_with fail
 exact bodyPost_ret (v := .agg #[.int .u8 k, .string ⟨#[]⟩, .int .u8 0, .int .i64 0, .string ⟨#[]⟩, .string ⟨#[]⟩, .slice A n c]) (by simp [results, Tryz.results44, go_sem]) rfl ⟨rfl, (Below.refl _ _).alloc (Nat.le_refl _) _⟩
end
section
/- Walks: the examples of truth's statements (chandlerylaw14.awake). -/




open Go.RowKit Go.Shelf
set_option linter.unusedVariables false

/-- an atom as it lies in a block of its own -/
def AtX (b : Nat) (s : ByteArray) (W : World) : Prop := b < W.heap.size ∧ W.cell? ⟨b, 0, none⟩ = some (.int .u8 1) ∧ W.cell? ⟨b, 1, none⟩ = some (.string s) ∧ W.cell? ⟨b, 2, none⟩ = some (.int .u8 0) ∧ W.cell? ⟨b, 3, none⟩ = some (.int .i64 0) ∧ W.cell? ⟨b, 4, none⟩ = some (.string ⟨#[]⟩) ∧ W.cell? ⟨b, 5, none⟩ = some (.string ⟨#[]⟩) ∧ W.cell? ⟨b, 6, none⟩ = some (.slice none 0 0)
theorem AtX.then {b : Nat} {s : ByteArray} {W W' : World} (h : AtX b s W) (hb : Below W.heap.size W W') : AtX b s W' := by
 obtain ⟨l, c0, c1, c2, c3, c4, c5, c6⟩ := h
 have hc : ∀ i, W'.cell? ⟨b, i, none⟩ = W.cell? ⟨b, i, none⟩ := fun i => hb.cell (p := ⟨b, i, none⟩) l
 exact ⟨Nat.lt_of_lt_of_le l hb.size, (hc 0).trans c0, (hc 1).trans c1, (hc 2).trans c2, (hc 3).trans c3, (hc 4).trans c4, (hc 5).trans c5, (hc 6).trans c6⟩
theorem AtX.new (s : ByteArray) (W : World) : AtX W.heap.size s (W.alloc (.cells #[.int .u8 1, .string s, .int .u8 0, .int .i64 0, .string ⟨#[]⟩, .string ⟨#[]⟩, .slice none 0 0] 39)) := ⟨by simp, by simp [go_sem], by simp [go_sem], by simp [go_sem], by simp [go_sem], by simp [go_sem], by simp [go_sem], by simp [go_sem]⟩
structure Aw (T X bx bY bo bn : Nat) (L2 : List Pk) (w0 W : World) : Prop where
 tr : TruthAt T X 2 L2 W
 ri : WhIn W
 x : AtX bx ⟨#[120]⟩ W
 y : AtX bY ⟨#[121]⟩ W
 bo : Rd encI 1 W.heap.size (some ⟨bo, 0, none⟩) 2 [0, 1] W
 on : Rd encI 1 W.heap.size (some ⟨bn, 0, none⟩) 1 [0] W
 old : Below w0.heap.size w0 W
theorem Aw.then {T X bx bY bo bn : Nat} {L2 : List Pk} {w0 W W' : World} (h : Aw T X bx bY bo bn L2 w0 W) (hb : Below W.heap.size W W') : Aw T X bx bY bo bn L2 w0 W' :=
 ⟨h.tr.then hb, h.ri.below hb, h.x.then hb, h.y.then hb, (h.bo.below hb).more hb.size, (h.on.below hb).more hb.size, h.old.trans (hb.mono h.old.size)⟩
abbrev ax : RV := atomR [120]
abbrev ay : RV := atomR [121]
theorem ax_all (W : World) {l : List RV} (h : ∀ t ∈ l, t = ax ∨ t = ay) : ∀ t ∈ l, RTree W.heap.size W t := fun t ht => by
 rcases h t ht with rfl | rfl
 ·exact atomR_rtree _ _ _ (by decide)
 ·exact atomR_rtree _ _ _ (by decide)
def PV : Nat → Dp → Bool := pvL (twoP none none)
theorem aw_rt {k : Int} {l : List RV} {W W2 : World} {cs : Array Value} (hcs : cs.toList = l.flatMap encR) (hn : l.length ≤ 3) (h : ∀ t ∈ l, t = ax ∨ t = ay) (hb : Below (W.alloc (.cells cs 39)).heap.size (W.alloc (.cells cs 39)) W2) : RTree W2.heap.size W2 (.node k zeroT (some ⟨W.heap.size, 0, none⟩) l.length l) :=
 ((lit_tree rfl hcs (by unfold maxLen; omega) (ax_all W h)).keeps hb).more hb.size
theorem aw_parts {k : Int} {l : List RV} {A : Option Addr} {c : Nat} (hn : l.length ≤ 3) (h : ∀ t ∈ l, t = ax ∨ t = ay) : (RV.node k zeroT A c l).tree.parts ≤ 1000000 := by
 have : ∀ l : List RV, (∀ t ∈ l, t = ax ∨ t = ay) → partsL (treeL l) = l.length := by
  intro l
  induction l with
  | nil => intro _; rfl
  | cons a l ih =>
   intro h
   show a.tree.parts + partsL (treeL l) = l.length + 1
   rw [ih (fun t ht => h t (List.mem_cons_of_mem _ ht))]
   rcases h a (List.mem_cons_self ..) with rfl | rfl
   ·show 1 + l.length = _; omega
   ·show 1 + l.length = _; omega
 show 1 + partsL (treeL l) ≤ 1000000
 rw [this l h]; omega
theorem aw_sat {T X bx bY bo bn : Nat} {L2 : List Pk} {w0 W W2 : World} (hA : Aw T X bx bY bo bn L2 w0 W2) (hp : pvL L2 = PV) {k : Int} {l : List RV} {cs : Array Value} (hcs : cs.toList = l.flatMap encR) (hn : l.length ≤ 3) (h : ∀ t ∈ l, t = ax ∨ t = ay) (hb : Below (W.alloc (.cells cs 39)).heap.size (W.alloc (.cells cs 39)) W2)
  {b : Nat} {S : List Int} (hS : Rd encI 1 W2.heap.size (some ⟨b, 0, none⟩) S.length S W2) {r : Bool} (hr : Tr.satS 2 PV S (.mk k zeroT (treeL l)) = r) :
  Calls Tryz.prog 40 #[.pointer (some ⟨T, 0, none⟩), .slice (some ⟨b, 0, none⟩) S.length S.length, .agg #[.int .u8 k, .string ⟨#[]⟩, .int .u8 0, .int .i64 0, .string ⟨#[]⟩, .string ⟨#[]⟩, .slice (some ⟨W.heap.size, 0, none⟩) l.length l.length]] W2 fun e w' => e = .returned (.bool r) ∧ Below W2.heap.size W2 w' := by
 have q := tsat_any hA.tr hA.ri (some ⟨b, 0, none⟩) S.length S hS (.node k zeroT (some ⟨W.heap.size, 0, none⟩) l.length l) (aw_rt hcs hn h hb) (aw_parts hn h)
 rw [hp, show (RV.node k zeroT (some ⟨W.heap.size, 0, none⟩) l.length l).tree = RT.mk k zeroT (treeL l) from rfl, hr] at q
 exact q
theorem aw_alone {T X bx bY bo bn : Nat} {L2 : List Pk} {w0 W W2 : World} (hA : Aw T X bx bY bo bn L2 w0 W2) (hp : pvL L2 = PV) {k n : Int} {l : List RV} {cs : Array Value} (hcs : cs.toList = l.flatMap encR) (hn : l.length ≤ 3) (h : ∀ t ∈ l, t = ax ∨ t = ay) (hb : Below (W.alloc (.cells cs 39)).heap.size (W.alloc (.cells cs 39)) W2)
  {r : Bool} (hr : Tr.aloneS 2 PV n (.mk k zeroT (treeL l)) = r) :
  Calls Tryz.prog 43 #[.pointer (some ⟨T, 0, none⟩), .int .i64 n, .agg #[.int .u8 k, .string ⟨#[]⟩, .int .u8 0, .int .i64 0, .string ⟨#[]⟩, .string ⟨#[]⟩, .slice (some ⟨W.heap.size, 0, none⟩) l.length l.length]] W2 fun e w' => e = .returned (.bool r) ∧ Below W2.heap.size W2 w' := by
 have q := talone_any hA.tr hA.ri n (.node k zeroT (some ⟨W.heap.size, 0, none⟩) l.length l) (aw_rt hcs hn h hb) (aw_parts hn h)
 rw [hp, show (RV.node k zeroT (some ⟨W.heap.size, 0, none⟩) l.length l).tree = RT.mk k zeroT (treeL l) from rfl, hr] at q
 exact q
theorem aw_who {T X bx bY bo bn : Nat} {L2 : List Pk} {w0 W2 : World} (hA : Aw T X bx bY bo bn L2 w0 W2) (hp : pvL L2 = PV) {l : List Int} (hr : Tr.whoS 2 PV [0, 1] (atomT [120]) = l) :
  Calls Tryz.prog 41 #[.pointer (some ⟨T, 0, none⟩), .slice (some ⟨bo, 0, none⟩) 2 2, .agg #[.int .u8 1, .string ⟨#[120]⟩, .int .u8 0, .int .i64 0, .string ⟨#[]⟩, .string ⟨#[]⟩, .slice none 0 0]] W2 fun e w' => ∃ v, e = .returned v ∧ Own encI 1 W2.heap.size 3 v l w' ∧ Below W2.heap.size W2 w' := by
 have q := twho_any hA.tr hA.ri (some ⟨bo, 0, none⟩) 2 [0, 1] hA.bo ax (atomR_rtree _ _ _ (by decide)) (by show 1 ≤ 1000000; decide)
 rw [hp, atomR_tree, hr] at q
 exact q
theorem aw1v : Tr.satS 2 PV [0, 1] (.mk 2 zeroT (treeL [ax, ay])) = true := by decide +kernel
theorem aw2v : Tr.satS 2 PV [0, 1] (.mk 6 zeroT (treeL [ax, ay])) = false := by decide +kernel
theorem aw3v : Tr.aloneS 2 PV 0 (.mk 7 zeroT (treeL [ax, ay])) = true := by decide +kernel
theorem aw4v : Tr.satS 2 PV [0] (.mk 4 zeroT (treeL [ax, ay])) = true := by decide +kernel
theorem aw5v : Tr.satS 2 PV [0] (.mk 4 zeroT (treeL [ay, ax])) = false := by decide +kernel
theorem aw6v : Tr.satS 2 PV [0] (.mk 5 zeroT (treeL [ax, ay])) = true := by decide +kernel
theorem aw7v : Tr.satS 2 PV [0] (.mk 4 zeroT (treeL [ay, ay, ax])) = true := by decide +kernel
theorem aw8v : Tr.whoS 2 PV [0, 1] (atomT [120]) = [0] := by decide +kernel
end
end Go.Proofs.YteobmfpbgnmffaaGreatDoor

/- TrAw, TrLess, TrDel -/
set_option linter.unusedSimpArgs false
set_option linter.unusedVariables false
namespace Go.Proofs.YteobmfpbgnmffaaGreatDoor
section
/- Walk: the examples of truth's statements (chandlerylaw14.awake). -/


open Go.RowKit Go.Shelf
set_option linter.unusedVariables false

set_option maxRecDepth 100000 in
set_option maxHeartbeats 16000000 in
theorem tawake_any (w : World) (hI : WhIn w) : Calls Tryz.prog 37 #[] w fun e w' => e = .returned (.bool true) ∧ Below w.heap.size w w' := by
 have TW := Lib.hid (two_any w hI.1)
 have HI := Lib.hid hI
 clear hI
 go_enter Tryz.func37, Tryz.ntmps37
 go_wp2_with fail
 go_at_call 59
 refine TW.out.mono ?_
 rintro en w1 ⟨T, X, L2, rfl, ht, hp, hb1⟩
 have HP := Lib.hid (show pvL L2 = PV from funext fun n => funext fun d => hp n d)
 have HT := Lib.hid ht
 have B1 := Lib.hid hb1
 clear ht hp hb1 TW
 go_wp2_with fail
 go_at_call 58
 refine (atom14_any _ _).mono ?_
 rintro en w2 ⟨rfl, hb⟩
 have B2 := Lib.hid hb
 clear hb
 go_wp2_with fail
 go_at_call 58
 refine (atom14_any _ _).mono ?_
 rintro en w3 ⟨rfl, hb⟩
 have B3 := Lib.hid (B2.out.trans (hb.mono B2.out.size))
 clear hb B2
 go_wp2_with fail
 obtain ⟨v1, e1⟩ : ∃ W, W = w3.alloc (.cells #[.int .u8 1, .string ⟨#[120]⟩, .int .u8 0, .int .i64 0, .string ⟨#[]⟩, .string ⟨#[]⟩, .slice none 0 0] 39) := ⟨_, rfl⟩
 rw [← e1]
 have b1 : Below w3.heap.size w3 v1 := by rw [e1]; exact (Below.refl _ _).alloc (Nat.le_refl _) _
 have s1 : v1.heap.size = w3.heap.size + 1 := by rw [e1, World.size_alloc]
 obtain ⟨v2, e2⟩ : ∃ W, W = v1.alloc (.cells #[.int .u8 1, .string ⟨#[121]⟩, .int .u8 0, .int .i64 0, .string ⟨#[]⟩, .string ⟨#[]⟩, .slice none 0 0] 39) := ⟨_, rfl⟩
 rw [← e2]
 have b2 : Below v1.heap.size v1 v2 := by rw [e2]; exact (Below.refl _ _).alloc (Nat.le_refl _) _
 have s2 : v2.heap.size = w3.heap.size + 1 + 1 := by rw [e2, World.size_alloc, s1]
 obtain ⟨v3, e3⟩ : ∃ W, W = v2.alloc (.cells #[.int .i64 0, .int .i64 1] 3) := ⟨_, rfl⟩
 rw [← e3]
 have b3 : Below v2.heap.size v2 v3 := by rw [e3]; exact (Below.refl _ _).alloc (Nat.le_refl _) _
 have s3 : v3.heap.size = w3.heap.size + 1 + 1 + 1 := by rw [e3, World.size_alloc, s2]
 obtain ⟨v4, e4⟩ : ∃ W, W = v3.alloc (.cells #[.int .i64 0] 3) := ⟨_, rfl⟩
 rw [← e4]
 have b4 : Below v3.heap.size v3 v4 := by rw [e4]; exact (Below.refl _ _).alloc (Nat.le_refl _) _
 have s4 : v4.heap.size = w3.heap.size + 1 + 1 + 1 + 1 := by rw [e4, World.size_alloc, s3]
 have ax4 : AtX (w3.heap.size) ⟨#[120]⟩ v1 := by rw [e1]; exact AtX.new _ _
 have ay4 : AtX (w3.heap.size + 1) ⟨#[121]⟩ v2 := by have q := AtX.new ⟨#[121]⟩ v1; rw [s1] at q; rw [e2]; exact q
 have bo4 : Rd encI 1 v3.heap.size (some ⟨w3.heap.size + 1 + 1, 0, none⟩) 2 [0, 1] v3 := by have q := rd_litT (enc := encI) (size := 1) (fun _ => rfl) [0, 1] v2 3 (by simp); rw [s2] at q; rw [e3]; exact q
 have on4 : Rd encI 1 v4.heap.size (some ⟨w3.heap.size + 1 + 1 + 1, 0, none⟩) 1 [0] v4 := by have q := rd_litT (enc := encI) (size := 1) (fun _ => rfl) [0] v3 3 (by simp); rw [s3] at q; rw [e4]; exact q
 have b14 := B3.out.trans ((b1.trans ((b2.trans ((b3.trans (b4.mono b3.size)).mono b2.size)).mono b1.size)).mono B3.out.size)
 have w14 := B1.out.trans (b14.mono B1.out.size)
 have A0 : Hid (Aw T X (w3.heap.size) (w3.heap.size + 1) (w3.heap.size + 1 + 1) (w3.heap.size + 1 + 1 + 1) L2 w v4) := Lib.hid ⟨HT.out.then b14, HI.out.below w14, ((ax4.then b2).then b3).then b4, (ay4.then b3).then b4, (bo4.below b4).more b4.size, on4, w14⟩
 clear ax4 ay4 bo4 on4 b14 w14 b1 b2 b3 b4 e1 e2 e3 e4 s1 s2 s3 HT HI B1 B3
 rw [← s4]
 clear s4
 generalize w3.heap.size = g at *
 go_at_call 44
 refine (of14_any _ _ _ _ _).mono ?_
 rintro en wa0 ⟨rfl, hb⟩
 have E0 := Lib.hid ((A0.out.then ((Below.refl _ _).alloc (Nat.le_refl _) _)).then hb)
 have Q0 := Lib.hid (aw_sat (l := [ax, ay]) E0.out HP.out (cs := #[.int .u8 1, .string ⟨#[120]⟩, .int .u8 0, .int .i64 0, .string ⟨#[]⟩, .string ⟨#[]⟩, .slice none 0 0, .int .u8 1, .string ⟨#[121]⟩, .int .u8 0, .int .i64 0, .string ⟨#[]⟩, .string ⟨#[]⟩, .slice none 0 0]) rfl (by decide) (by simp) hb E0.out.bo aw1v)
 clear hb A0
 go_wp2_with fail
 go_at_call 40
 refine Q0.out.mono ?_
 rintro en wb0 ⟨rfl, h⟩
 have A1 := Lib.hid (E0.out.then h)
 clear h Q0 E0
 obtain ⟨_, x0, x1, x2, x3, x4, x5, x6⟩ := A1.out.x
 obtain ⟨_, y0, y1, y2, y3, y4, y5, y6⟩ := A1.out.y
 go_wp2_with fail
 clear x0 x1 x2 x3 x4 x5 x6 y0 y1 y2 y3 y4 y5 y6
 go_at_call 44
 refine (of14_any _ _ _ _ _).mono ?_
 rintro en wa1 ⟨rfl, hb⟩
 have E1 := Lib.hid ((A1.out.then ((Below.refl _ _).alloc (Nat.le_refl _) _)).then hb)
 have Q1 := Lib.hid (aw_sat (l := [ax, ay]) E1.out HP.out (cs := #[.int .u8 1, .string ⟨#[120]⟩, .int .u8 0, .int .i64 0, .string ⟨#[]⟩, .string ⟨#[]⟩, .slice none 0 0, .int .u8 1, .string ⟨#[121]⟩, .int .u8 0, .int .i64 0, .string ⟨#[]⟩, .string ⟨#[]⟩, .slice none 0 0]) rfl (by decide) (by simp) hb E1.out.bo aw2v)
 clear hb A1
 go_wp2_with fail
 go_at_call 40
 refine Q1.out.mono ?_
 rintro en wb1 ⟨rfl, h⟩
 have A2 := Lib.hid (E1.out.then h)
 clear h Q1 E1
 obtain ⟨_, x0, x1, x2, x3, x4, x5, x6⟩ := A2.out.x
 obtain ⟨_, y0, y1, y2, y3, y4, y5, y6⟩ := A2.out.y
 go_wp2_with fail
 clear x0 x1 x2 x3 x4 x5 x6 y0 y1 y2 y3 y4 y5 y6
 go_at_call 44
 refine (of14_any _ _ _ _ _).mono ?_
 rintro en wa2 ⟨rfl, hb⟩
 have E2 := Lib.hid ((A2.out.then ((Below.refl _ _).alloc (Nat.le_refl _) _)).then hb)
 have Q2 := Lib.hid (aw_alone (l := [ax, ay]) E2.out HP.out (cs := #[.int .u8 1, .string ⟨#[120]⟩, .int .u8 0, .int .i64 0, .string ⟨#[]⟩, .string ⟨#[]⟩, .slice none 0 0, .int .u8 1, .string ⟨#[121]⟩, .int .u8 0, .int .i64 0, .string ⟨#[]⟩, .string ⟨#[]⟩, .slice none 0 0]) rfl (by decide) (by simp) hb aw3v)
 clear hb A2
 go_wp2_with fail
 go_at_call 43
 refine Q2.out.mono ?_
 rintro en wb2 ⟨rfl, h⟩
 have A3 := Lib.hid (E2.out.then h)
 clear h Q2 E2
 obtain ⟨_, x0, x1, x2, x3, x4, x5, x6⟩ := A3.out.x
 obtain ⟨_, y0, y1, y2, y3, y4, y5, y6⟩ := A3.out.y
 go_wp2_with fail
 clear x0 x1 x2 x3 x4 x5 x6 y0 y1 y2 y3 y4 y5 y6
 go_at_call 44
 refine (of14_any _ _ _ _ _).mono ?_
 rintro en wa3 ⟨rfl, hb⟩
 have E3 := Lib.hid ((A3.out.then ((Below.refl _ _).alloc (Nat.le_refl _) _)).then hb)
 have Q3 := Lib.hid (aw_sat (l := [ax, ay]) E3.out HP.out (cs := #[.int .u8 1, .string ⟨#[120]⟩, .int .u8 0, .int .i64 0, .string ⟨#[]⟩, .string ⟨#[]⟩, .slice none 0 0, .int .u8 1, .string ⟨#[121]⟩, .int .u8 0, .int .i64 0, .string ⟨#[]⟩, .string ⟨#[]⟩, .slice none 0 0]) rfl (by decide) (by simp) hb E3.out.on aw4v)
 clear hb A3
 go_wp2_with fail
 go_at_call 40
 refine Q3.out.mono ?_
 rintro en wb3 ⟨rfl, h⟩
 have A4 := Lib.hid (E3.out.then h)
 clear h Q3 E3
 obtain ⟨_, x0, x1, x2, x3, x4, x5, x6⟩ := A4.out.x
 obtain ⟨_, y0, y1, y2, y3, y4, y5, y6⟩ := A4.out.y
 go_wp2_with fail
 clear x0 x1 x2 x3 x4 x5 x6 y0 y1 y2 y3 y4 y5 y6
 go_at_call 44
 refine (of14_any _ _ _ _ _).mono ?_
 rintro en wa4 ⟨rfl, hb⟩
 have E4 := Lib.hid ((A4.out.then ((Below.refl _ _).alloc (Nat.le_refl _) _)).then hb)
 have Q4 := Lib.hid (aw_sat (l := [ay, ax]) E4.out HP.out (cs := #[.int .u8 1, .string ⟨#[121]⟩, .int .u8 0, .int .i64 0, .string ⟨#[]⟩, .string ⟨#[]⟩, .slice none 0 0, .int .u8 1, .string ⟨#[120]⟩, .int .u8 0, .int .i64 0, .string ⟨#[]⟩, .string ⟨#[]⟩, .slice none 0 0]) rfl (by decide) (by simp) hb E4.out.on aw5v)
 clear hb A4
 go_wp2_with fail
 go_at_call 40
 refine Q4.out.mono ?_
 rintro en wb4 ⟨rfl, h⟩
 have A5 := Lib.hid (E4.out.then h)
 clear h Q4 E4
 obtain ⟨_, x0, x1, x2, x3, x4, x5, x6⟩ := A5.out.x
 obtain ⟨_, y0, y1, y2, y3, y4, y5, y6⟩ := A5.out.y
 go_wp2_with fail
 clear x0 x1 x2 x3 x4 x5 x6 y0 y1 y2 y3 y4 y5 y6
 go_at_call 44
 refine (of14_any _ _ _ _ _).mono ?_
 rintro en wa5 ⟨rfl, hb⟩
 have E5 := Lib.hid ((A5.out.then ((Below.refl _ _).alloc (Nat.le_refl _) _)).then hb)
 have Q5 := Lib.hid (aw_sat (l := [ax, ay]) E5.out HP.out (cs := #[.int .u8 1, .string ⟨#[120]⟩, .int .u8 0, .int .i64 0, .string ⟨#[]⟩, .string ⟨#[]⟩, .slice none 0 0, .int .u8 1, .string ⟨#[121]⟩, .int .u8 0, .int .i64 0, .string ⟨#[]⟩, .string ⟨#[]⟩, .slice none 0 0]) rfl (by decide) (by simp) hb E5.out.on aw6v)
 clear hb A5
 go_wp2_with fail
 go_at_call 40
 refine Q5.out.mono ?_
 rintro en wb5 ⟨rfl, h⟩
 have A6 := Lib.hid (E5.out.then h)
 clear h Q5 E5
 obtain ⟨_, x0, x1, x2, x3, x4, x5, x6⟩ := A6.out.x
 obtain ⟨_, y0, y1, y2, y3, y4, y5, y6⟩ := A6.out.y
 go_wp2_with fail
 clear x0 x1 x2 x3 x4 x5 x6 y0 y1 y2 y3 y4 y5 y6
 go_at_call 44
 refine (of14_any _ _ _ _ _).mono ?_
 rintro en wa6 ⟨rfl, hb⟩
 have E6 := Lib.hid ((A6.out.then ((Below.refl _ _).alloc (Nat.le_refl _) _)).then hb)
 have Q6 := Lib.hid (aw_sat (l := [ay, ay, ax]) E6.out HP.out (cs := #[.int .u8 1, .string ⟨#[121]⟩, .int .u8 0, .int .i64 0, .string ⟨#[]⟩, .string ⟨#[]⟩, .slice none 0 0, .int .u8 1, .string ⟨#[121]⟩, .int .u8 0, .int .i64 0, .string ⟨#[]⟩, .string ⟨#[]⟩, .slice none 0 0, .int .u8 1, .string ⟨#[120]⟩, .int .u8 0, .int .i64 0, .string ⟨#[]⟩, .string ⟨#[]⟩, .slice none 0 0]) rfl (by decide) (by simp) hb E6.out.on aw7v)
 clear hb A6
 go_wp2_with fail
 go_at_call 40
 refine Q6.out.mono ?_
 rintro en wb6 ⟨rfl, h⟩
 have A7 := Lib.hid (E6.out.then h)
 clear h Q6 E6
 obtain ⟨_, x0, x1, x2, x3, x4, x5, x6⟩ := A7.out.x
 obtain ⟨_, y0, y1, y2, y3, y4, y5, y6⟩ := A7.out.y
 go_wp2_with fail
 clear x0 x1 x2 x3 x4 x5 x6 y0 y1 y2 y3 y4 y5 y6
 go_at_call 41
 refine (aw_who A7.out HP.out aw8v).mono ?_
 rintro en w8 ⟨v, rfl, how, h⟩
 have A8 := Lib.hid (A7.out.then h)
 obtain ⟨AA, cc, rfl, rdw⟩ := how.rd encI_len
 have NU := Lib.hid (numbers12_any AA (some ⟨g + 1 + 1 + 1, 0, none⟩) cc 1 [0] [0] w8 (by decide) (by decide) rdw A8.out.on)
 clear h how A7
 go_wp2_with fail
 go_at_call 30
 refine NU.out.mono ?_
 rintro en w9 ⟨rfl, h⟩
 have B9 := Lib.hid (A8.out.old.trans (h.mono A8.out.old.size))
 clear h A8 NU
 go_wp2_with fail
 go_ret
 exact ⟨rfl, B9.out⟩
end
section
/- Walk: a state without a number (chandleryref14.Less). -/



open Go.RowKit Go.Shelf
set_option linter.unusedVariables false

/-- a row without a number -/
def lessV (D : List Int) (x : Int) : List Int := D.filter fun z => decide (z ≠ x)
end
section
/- Walks: rows of numbers: slices.Clone, IndexFunc (the place), DeleteFunc. -/





open Go.RowKit Go.Shelf
set_option linter.unusedVariables false

/-- a row of numbers in a block of its own -/
def IRow (b n : Nat) (f : Nat → Int) (W : World) : Prop := ∀ i, i < n → W.cell? ⟨b, i, none⟩ = some (.int .i64 (f i)) ∧ W.frozen? ⟨b, i, none⟩ = false
theorem IRow.then {b n : Nat} {f : Nat → Int} {W W' : World} (h : IRow b n f W) (hb : Below W.heap.size W W') : IRow b n f W' := fun i hi => by
 obtain ⟨h1, h2⟩ := h i hi
 have hl := World.block_lt_of_cell? W _ h1
 exact ⟨(hb.cell hl).trans h1, (hb.frozen hl).trans h2⟩
theorem IRow.set {b n : Nat} {f : Nat → Int} {W : World} (h : IRow b n f W) {k : Nat} (hk : k < n) (x : Int) : IRow b n (fun i => if i = k then x else f i) (W.setCell ⟨b, k, none⟩ (.int .i64 x)) := fun i hi => by
 refine ⟨?_, (World.frozen?_setCell _ _ _ _).trans (h i hi).2⟩
 show _ = some (Value.int .i64 (if i = k then x else f i))
 by_cases e : i = k
 ·subst e; rw [if_pos rfl]; exact sc_same (h i hi).1
 ·rw [if_neg e]
  exact (sc_other (fun h2 => e (by simp only [Addr.mk.injEq] at h2; exact h2.2.1.symm))).trans (h i hi).1
theorem IRow.of_own {b c base : Nat} {D : List Int} {W : World} (h : Own encI 1 base 3 (.slice (some ⟨b, 0, none⟩) D.length c) D W) : IRow b D.length (fun i => D.getD i 0) W := fun i hi => by
 refine ⟨?_, World.ownsRow.frozenAt h i⟩
 have q := World.ownsRow.cellAt h i (by omega)
 rw [q]
 have : ∀ (l : List Int) (k : Nat), (l.flatMap encI)[k]? = (l[k]?).map fun z => Value.int .i64 z := by
  intro l
  induction l with
  | nil => intro k; rfl
  | cons a l ih => intro k; cases k with
   | zero => rfl
   | succ k => exact ih k
 show _ = some (Value.int .i64 (D.getD i 0))
 rw [this, List.getD_eq_getElem?_getD, List.getElem?_eq_getElem hi]
 rfl
set_option maxRecDepth 100000 in
set_option maxHeartbeats 16000000 in
theorem tclone_any (A : Option Addr) (cap : Nat) (l : List Int) (w : World) (h : Rd encI 1 w.heap.size A cap l w) (hl : l.length ≤ 5000) : Calls Tryz.prog 111 #[.slice A l.length cap] w fun e w' => ∃ v, e = .returned v ∧ Own encI 1 w.heap.size 3 v l w' ∧ Below w.heap.size w w' := by
 have q : ∀ (w : World) (a : Option Addr) (n c n' c' : Nat), (binOp .eql 42 (.slice a n c) (.slice none n' c')).run Tryz.prog w = .ok (.bool a.isNone) w := fun w a n c n' c' => Lib.run_eql_slice_nil w _ _ a n c n' c' (by rfl)
 have H := Lib.hid h
 have HL := Lib.hid hl
 cases A with
 | none =>
  have hlen : l.length = 0 := by
   cases l with
   | nil => rfl
   | cons x r => obtain ⟨b, o, e, _⟩ := h.2.2 0 (by simp); cases e
  obtain rfl := List.eq_nil_of_length_eq_zero hlen
  clear h hl hlen
  go_enter Tryz.func111, Tryz.ntmps111
  go_wp2_with fail
  go_ret
  exact ⟨_, rfl, Own.nil_ _ _ _, Below.refl _ _⟩
 | some ad =>
  obtain ⟨n, hn⟩ : ∃ n, n = l.length := ⟨_, rfl⟩
  have HN := Lib.hid hn
  rw [← hn]
  clear h hl hn
  go_enter Tryz.func111, Tryz.ntmps111
  go_wp2_with (at_builtin; refine wpList_append_rd _ rfl _ _ 42 rfl w.heap.size 3 _ _ 1 _ (by rfl) (by rfl) (by rfl) (by rfl) (by rfl) (by rfl) (by decide) encI_len encI_one _ 0 [] rfl (World.ownsRow_made w #[] 0 (Nat.le_refl _) (Nat.zero_le _) rfl) w.heap.size (some ad) cap l n HN.out rfl (H.out.alloc (Nat.le_refl _) _) (by have := HL.out; omega) (by decide) (by simp) ?_; intro v1 w1 ho1 hg1 hw1)
  go_ret
  have hO : Own encI 1 w.heap.size 3 v1 l w1 := by simpa [Own] using ho1
  exact ⟨v1, rfl, hO, ((Below.refl _ w).alloc (Nat.le_refl _) _).grown hg1 (by simp) (by intro k hk; cases hk; exact Nat.le_refl _)⟩
set_option maxRecDepth 100000 in
set_option maxHeartbeats 16000000 in
theorem idxat_any (g : FuncId) (eg : ∀ args w, (callFunc g args).run Tryz.prog w = .ok (.enter g args) w) (cp : Array Value) (p : Int → Bool) (l : List Int) (A : Option Addr) (c : Nat) (w : World) (hl : Rd encI 1 w.heap.size A c l w) (hn : l.length ≤ 1000000) (hp : PredI w g cp p l) :
  Calls Tryz.prog 156 #[.slice A l.length c, .func (.func g) #[] cp] w fun e w' => ((e = .returned (.int .i64 (-1)) ∧ ∀ j (hj : j < l.length), p l[j] = false) ∨ ∃ k : Nat, ∃ hk : k < l.length, e = .returned (.int .i64 (k : Int)) ∧ p l[k] = true ∧ ∀ j (hj : j < l.length), j < k → p l[j] = false) ∧ Below w.heap.size w w' := by
 have HL := Lib.hid hl
 have HP := Lib.hid hp
 clear hp
 obtain ⟨n, hnn⟩ : ∃ n, n = l.length := ⟨_, rfl⟩
 rw [← hnn] at hn
 have HN := Lib.hid hnn
 rw [show (Value.slice A l.length c) = .slice A n c by rw [hnn]]
 clear hl hnn
 go_enter Tryz.func156, Tryz.ntmps156
 go_wp2_with fail
 go_loopw [8] (fun i wr => ∃ k : Nat, k ≤ n ∧ i = .int .i64 (k : Int) ∧ Hid (∀ j (hj : j < l.length), j < k → p l[j] = false) ∧ Below w.heap.size w wr) (fun i _ => n - (intOf i).toNat)
 case atStart => exact ⟨0, by omega, rfl, Lib.hid (by intro j hj h; omega), Below.refl _ _⟩
 case round =>
  obtain ⟨k, hk, rfl, hS, hB⟩ := hrel
  rename World => wr
  by_cases hlt : k < n
  ·have hkl : k < l.length := by have := HN.out; omega
   obtain ⟨b, o, rfl, hb, c0⟩ := (HL.out.below hB).at1 (f := fun s => Value.int .i64 s) (fun _ => rfl) hkl
   have CP := Lib.hid (HP.out _ (List.getElem_mem hkl) wr hB)
   have HT := Lib.hid (fun (h : p l[k] = true) => show ∃ k' : Nat, ∃ hk : k' < l.length, k' = k ∧ p l[k'] = true ∧ ∀ j (hj : j < l.length), j < k' → p l[j] = false from ⟨k, hkl, rfl, h, hS.out⟩)
   have HF := Lib.hid (fun (h : p l[k] = false) => show ∀ j (hj : j < l.length), j < k + 1 → p l[j] = false from fun j hj hjk => by
    by_cases e : j = k
    ·subst e; exact h
    ·exact hS.out j hj (by omega))
   have i0 : (0 : Int) ≤ (k : Int) := by omega
   have i1 : (k : Int) < (n : Int) := by omega
   generalize l[k] = d at *
   generalize p d = r at *
   clear hS
   go_wp2_with fail
   go_at_fn g
   refine CP.out.mono ?_
   rintro e w2 ⟨rfl, h⟩
   have hB2 := hB.trans (h.mono hB.size)
   cases r
   ·have HF2 := Lib.hid (HF.out (by trivial))
    go_wp2_with fail
    go_roundw
    case rel => exact ⟨k + 1, by omega, by go_num, HF2, hB2⟩
    case measure => simp [intOf]; omega
   ·have HA := Lib.hid (HT.out (by trivial))
    clear HT HF
    go_wp2_with fail
    go_ret
    obtain ⟨k', hk', rfl, h1, h2⟩ := HA.out
    exact ⟨.inr ⟨_, hk', rfl, h1, h2⟩, hB2⟩
  ·have i1 : ¬ (k : Int) < (n : Int) := by omega
   have HA := Lib.hid (show ∀ j (hj : j < l.length), p l[j] = false from fun j hj => hS.out j hj (by have := HN.out; omega))
   go_wp2_with fail
   go_ret
   exact ⟨.inl ⟨rfl, HA.out⟩, hB⟩
theorem IRow.rd {b n c : Nat} {f : Nat → Int} {W : World} (h : IRow b n f W) (hb : b < W.heap.size) {E : List Int} (hE : E.length ≤ n) (hc : n ≤ c) (hm : c ≤ maxLen) (he : ∀ i (hi : i < E.length), f i = E[i]) : Rd encI 1 W.heap.size (some ⟨b, 0, none⟩) c E W :=
 ⟨by omega, hm, fun k hk => ⟨b, 0, rfl, hb, fun j u hu => by
  have hj : j = 0 := by have := (List.getElem?_eq_some_iff.1 hu).1; rw [encI_len] at this; omega
  subst hj
  have h1 := (h k (by omega)).1
  rw [he k hk] at h1
  rw [show 0 + k * 1 + 0 = k by omega, h1]
  exact hu⟩⟩
theorem getD_at {D : List Int} {i : Nat} (hi : i < D.length) : D.getD i 0 = D[i] := by rw [List.getD_eq_getElem?_getD, List.getElem?_eq_getElem hi]; rfl
theorem idxat2_any (g : FuncId) (eg : ∀ args w, (callFunc g args).run Tryz.prog w = .ok (.enter g args) w) (cp : Array Value) (p : Int → Bool) (l : List Int) (n : Nat) (hl9 : l.length = n) (A : Option Addr) (c : Nat) (w : World) (hl : Rd encI 1 w.heap.size A c l w) (hn : n ≤ 1000000) (hp : PredI w g cp p l) :
  Calls Tryz.prog 156 #[.slice A n c, .func (.func g) #[] cp] w fun e w' => ((e = .returned (.int .i64 (-1)) ∧ ∀ s ∈ l, p s = false) ∨ ∃ k : Nat, k < n ∧ e = .returned (.int .i64 (k : Int)) ∧ p (l.getD k 0) = true ∧ ∀ j, j < k → p (l.getD j 0) = false) ∧ Below w.heap.size w w' := by
 subst hl9
 refine (idxat_any g eg cp p l A c w hl hn hp).mono ?_
 rintro e w' ⟨h, hb⟩
 refine ⟨?_, hb⟩
 rcases h with ⟨h1, h2⟩ | ⟨k, hk, h1, h2, h3⟩
 ·exact .inl ⟨h1, fun s hs => by obtain ⟨j, hj, rfl⟩ := List.getElem_of_mem hs; exact h2 j hj⟩
 ·exact .inr ⟨k, hk, h1, by rw [getD_at hk]; exact h2, fun j hj => by rw [getD_at (by omega : j < l.length)]; exact h3 j _ hj⟩
theorem size_setC (b : Nat) : ∀ (vs : List Value) (o : Nat) (W : World), (W.setCells b o vs).heap.size = W.heap.size
 | [], _, _ => rfl
 | v :: vs, o, W => (size_setC b vs (o + 1) (W.setCell ⟨b, o, none⟩ v)).trans (by simp [World.setCell])
theorem below_setC {B b : Nat} (hb : B ≤ b) : ∀ (vs : List Value) (o : Nat) {a W : World}, Below B a W → Below B a (W.setCells b o vs)
 | [], _, _, _, h => h
 | v :: vs, o, _, _, h => below_setC hb vs (o + 1) (h.setCell (p := ⟨b, o, none⟩) hb v)
set_option maxRecDepth 100000 in
set_option maxHeartbeats 16000000 in
theorem delint_any (g : FuncId) (eg : ∀ args w, (callFunc g args).run Tryz.prog w = .ok (.enter g args) w) (cp : Array Value) (p : Int → Bool) (D : List Int) (b c base : Nat) (w0 w : World) (hbase : base ≤ b) (hbw : b < w.heap.size) (h0 : Below base w0 w) (hr : IRow b D.length (fun i => D.getD i 0) w) (hn : D.length ≤ 1000000) (hc : D.length ≤ c) (hcm : c ≤ maxLen) (h0b : base ≤ w.heap.size) (hp : ∀ s W, Below base w0 W → Calls Tryz.prog g (#[.int .i64 s] ++ cp) W fun e w' => e = .returned (.bool (p s)) ∧ Below W.heap.size W w') :
  Calls Tryz.prog 110 #[.slice (some ⟨b, 0, none⟩) D.length c, .func (.func g) #[] cp] w fun e w' => e = .returned (.slice (some ⟨b, 0, none⟩) (D.filter fun s => !p s).length c) ∧ Rd encI 1 w'.heap.size (some ⟨b, 0, none⟩) c (D.filter fun s => !p s) w' ∧ Below base w0 w' := by
 obtain ⟨n, hnn⟩ : ∃ n, D.length = n := ⟨_, rfl⟩
 have IX := Lib.hid (idxat2_any g eg cp p D n hnn (some ⟨b, 0, none⟩) c w (hr.rd hbw (Nat.le_refl _) hc hcm (fun i hi => getD_at hi)) (by omega) (fun s _ W hb => hp s W (h0.trans (hb.mono (by omega)))))
 have HP := Lib.hid hp
 have HR := Lib.hid hr
 have H0 := Lib.hid h0
 rw [hnn] at HR hn hc ⊢
 have HN := Lib.hid hnn
 have TK := Lib.hid (fun j (hj : j < n) => show (D.take (j + 1)).filter (fun s => !p s) = (D.take j).filter (fun s => !p s) ++ (if p (D.getD j 0) then [] else [D.getD j 0]) from by
  have hj2 : j < D.length := by omega
  rw [List.take_succ_eq_append_getElem hj2, List.filter_append, getD_at hj2, List.filter_cons]
  cases p D[j] <;> rfl)
 have TE := Lib.hid (show (D.take n).filter (fun s => !p s) = D.filter (fun s => !p s) from by rw [← hnn, List.take_length])
 clear hp hr h0 hnn
 go_enter Tryz.func110, Tryz.ntmps110
 go_wp2_with fail
 go_at_call 156
 refine IX.out.mono ?_
 rintro en w1 ⟨hcase, h⟩
 have B1 := Lib.hid (H0.out.trans (h.mono (by omega)))
 have R1 := Lib.hid (HR.out.then h)
 have HBW := Lib.hid (Nat.lt_of_lt_of_le hbw h.size)
 clear h IX H0 HR
 rcases hcase with ⟨rfl, hall⟩ | ⟨k, hk, rfl, hpk, hall⟩
 ·have HF := Lib.hid (show D.filter (fun s => !p s) = D from List.filter_eq_self.2 fun s hs => by rw [hall s hs]; rfl)
  clear hall
  go_wp2_with fail
  go_ret
  exact ⟨by rw [HF.out, HN.out]; rfl, by rw [HF.out]; exact R1.out.rd HBW.out (Nat.le_of_eq HN.out) hc hcm (fun i hi => getD_at hi), B1.out⟩
 ·have hk2 : ((k : Int) == -1) = false := beq_eq_false_iff_ne.2 (by omega)
  have F0 := Lib.hid (show (List.range k).map (fun i => D.getD i 0) = (D.take (k + 1)).filter (fun s => !p s) from by
   have hal : ∀ j, j ≤ k → (D.take j).filter (fun s => !p s) = (List.range j).map (fun i => D.getD i 0) := by
    intro j
    induction j with
    | zero => intro _; rfl
    | succ j ih =>
     intro hj
     rw [TK.out j (by omega), ih (by omega), hall j (by omega), List.range_succ, List.map_append]
     rfl
   rw [TK.out k hk, hal k (Nat.le_refl _), hpk]
   simp)
  clear hall hpk
  go_wp2_with fail
  go_loopw [5, 6, 7] (fun iv jv vv wr => ∃ (i j : Nat) (f : Nat → Int), i < j ∧ j ≤ n ∧ iv = .int .i64 (i : Int) ∧ jv = .int .i64 (j : Int) ∧ IRow b n f wr ∧ Hid (∀ x, j ≤ x → x < n → f x = D.getD x 0) ∧ Hid ((List.range i).map f = (D.take j).filter fun s => !p s) ∧ b < wr.heap.size ∧ Below base w0 wr) (fun _ jv _ _ => n - (intOf jv).toNat)
  case atStart => exact ⟨k, k + 1, fun i => D.getD i 0, by omega, by omega, rfl, by go_num, R1.out, Lib.hid (fun _ _ _ => rfl), F0.out, HBW.out, B1.out⟩
  case round =>
   obtain ⟨i, j, f, hij, hjn, rfl, rfl, hR, HS, HT, hbl, hB⟩ := hrel
   rename World => wr
   have RR := Lib.hid hR
   have HB := Lib.hid hB
   by_cases hlt : j < n
   ·have i0 : (0 : Int) ≤ (j : Int) := by omega
    have i1 : (j : Int) < (n : Int) := by omega
    have c0 := (hR j hlt).1
    have FJ := HS.out j (Nat.le_refl _) hlt
    rw [FJ] at c0
    have CP := Lib.hid (HP.out (D.getD j 0) wr hB)
    have TJ := Lib.hid (TK.out j hlt)
    generalize D.getD j 0 = d at *
    generalize p d = r at *
    clear hR hB
    go_wp2_with fail
    go_at_fn g
    refine CP.out.mono ?_
    rintro e w2 ⟨rfl, h⟩
    have HB2 := Lib.hid (HB.out.trans (h.mono (by have := HB.out.size; omega)))
    have RR2 := Lib.hid (RR.out.then h)
    have hbl2 := Nat.lt_of_lt_of_le hbl h.size
    clear h c0 RR HB
    cases r
    ·have NT := Lib.hid (show (List.range (i + 1)).map (fun x => if x = i then d else f x) = (D.take (j + 1)).filter (fun s => !p s) from by
      rw [TJ.out, ← HT.out, List.range_succ, List.map_append, if_neg (by simp)]
      congr 1
      ·exact List.map_congr_left fun x hx => if_neg (by have := List.mem_range.1 hx; omega)
      ·simp)
     obtain ⟨ci, fi⟩ := RR2.out i (by omega)
     have j0 : (0 : Int) ≤ (i : Int) := by omega
     have j1 : (i : Int) < (n : Int) := by omega
     have NR := Lib.hid (RR2.out.set (k := i) (by omega) d)
     have NB := Lib.hid (HB2.out.setCell (p := ⟨b, i, none⟩) hbase (.int .i64 d))
     clear TJ CP FJ
     go_wp2_with fail
     go_roundw
     case rel => exact ⟨i + 1, j + 1, _, by omega, by omega, by go_num, by go_num, NR.out, Lib.hid (fun x h1 h2 => by show (if x = i then d else f x) = _; rw [if_neg (by omega)]; exact HS.out x (by omega) h2), NT, by simpa [World.setCell] using hbl2, NB.out⟩
     case measure => simp [intOf]; omega
    ·have NT := Lib.hid (show (List.range i).map f = (D.take (j + 1)).filter (fun s => !p s) from by rw [TJ.out, if_pos (by simp), List.append_nil]; exact HT.out)
     clear TJ CP FJ
     go_wp2_with fail
     go_roundw
     case rel => exact ⟨i, j + 1, f, by omega, by omega, rfl, by go_num, RR2.out, Lib.hid (fun x h1 h2 => HS.out x (by omega) h2), NT, hbl2, HB2.out⟩
     case measure => simp [intOf]; omega
   ·obtain rfl : j = n := by omega
    have i1 : ¬ (j : Int) < (j : Int) := by omega
    have j0 : (0 : Int) ≤ (i : Int) := by omega
    have j1 : (i : Int) ≤ (j : Int) := by omega
    have j2 : (i : Int) ≤ (c : Int) := by omega
    have CL := fun ty => Lib.run_clear_slice (P := Tryz.prog) wr 42 3 ty (.int .i64 0) Tryz.underlying42 Tryz.zeroValue3 rfl rfl b i (j - i) (c - i) (by omega) (fun x hx => by rw [(hR (i + x) (by omega)).1]; rfl) (fun x hx => (hR (i + x) (by omega)).2)
    clear hR hB
    have R9 := Lib.hid (show Rd encI 1 (wr.setCells b i (List.replicate (j - i) (.int .i64 0))).heap.size (some ⟨b, 0, none⟩) c (D.filter fun s => !p s) (wr.setCells b i (List.replicate (j - i) (.int .i64 0))) from by
     have hE : D.filter (fun s => !p s) = (List.range i).map f := by rw [HT.out, TE.out]
     rw [hE]
     refine IRow.rd (n := i) (f := f) (fun x hx => ?_) ?_ (by simp) (by omega) hcm (fun x hx => by simp)
     ·exact ⟨(World.cell?_setCells_out b _ _ _ _ (fun _ _ => .inl hx)).trans (RR.out x (by omega)).1, (World.frozen?_setCells b _ _ _ _).trans (RR.out x (by omega)).2⟩
     ·rw [size_setC]; exact hbl)
    have L9 := Lib.hid (show (D.filter fun s => !p s).length = i from by rw [← TE.out, ← HT.out]; simp)
    have B9 := Lib.hid (below_setC hbase (List.replicate (j - i) (.int .i64 0)) i HB.out)
    clear HT TE RR HB
    go_wp2_with fail
    go_ret
    exact ⟨by rw [L9.out]; rfl, R9.out, B9.out⟩
end
end Go.Proofs.YteobmfpbgnmffaaGreatDoor

/- RegPh, TrWo -/
set_option linter.unusedSimpArgs false
set_option linter.unusedVariables false
open List (getElem?_toArray getElem?_cons_zero getElem?_cons_succ setIfInBounds_toArray set_cons_zero set_cons_succ take_succ_cons take_zero)
namespace Go.Proofs.YteobmfpbgnmffaaGreatDoor
section
/- As RegInv4's, in two phases: what is known of a value may turn when the s-th operation is done (it turns a row that it was handed). -/


open Go.RowKit Go.Shelf

section
variable {P : Program} {ops : Array Oper} {Q : Exit → Act → World → Prop} {md : Region.Mode}
/-- **As 'wp_region_tail'; and one operation, the s-th, turns what is there in a way of its own (an append onto a row of the call's).** -/
theorem wp_region_phase {PP : Bool → Nat → Value → World → Prop} {RelS : World → World → Prop} {id : Nat} {a : Act} {w : World} (n s : Nat) (hm : P.follows .mixedOrders = true) (hb : backEdges .any ops = true) (ht : tailEdges n ops = true) (hn : ((ops.toList.take n).map (·.dst)).Nodup) (hsz : n ≤ ops.size) (hsn : s < n)
  (hmono : ∀ ph i v w' w'', (Below w.heap.size w w' ∨ RelS w w') → PP ph i v w' → Below w'.heap.size w' w'' → PP ph i v w'') (hmonoS : ∀ i v w' w'', i ≠ s → Below w.heap.size w w' → PP false i v w' → RelS w' w'' → PP true i v w'')
  (hS2 : ∀ b c, RelS w b → Below b.heap.size b c → RelS w c) (hS3 : ∀ b c, Below w.heap.size w b → RelS b c → RelS w c) (vs0 : Nat → Value) (h0 : fillV (ops.toList.take n) 0 vs0 a = a)
  (hstep : ∀ (ph : Bool) (i : Nat) (o : Oper) (vs : Nat → Value) (w' : World), i < n → i ≠ s → ops[i]? = some o → (∀ e ∈ o.after, Region.binds .any e = true → PP ph e.on (vs e.on) w') → (Below w.heap.size w w' ∨ RelS w w') → (((ops[s]?).map fun o' => o'.after.any fun e => Region.binds .any e && e.on == i).getD false = true → Below w.heap.size w w') →
   ∀ K : Act → World → Prop, (∀ v w'', PP ph i v w'' → Below w'.heap.size w' w'' → K ((fillV (ops.toList.take n) 0 vs a).put o.dst v) w'') → if Region.wanted o (yielded ops (fillV (ops.toList.take n) 0 vs a).tmps) = true then Oper.wp P o (fillV (ops.toList.take n) 0 vs a) w' K Q else K ((fillV (ops.toList.take n) 0 vs a).put o.dst undef) w')
  (hstepS : ∀ (o : Oper) (vs : Nat → Value) (w' : World), ops[s]? = some o → (∀ e ∈ o.after, Region.binds .any e = true → PP false e.on (vs e.on) w') → Below w.heap.size w w' →
   ∀ K : Act → World → Prop, (∀ v w'', PP true s v w'' → RelS w' w'' → K ((fillV (ops.toList.take n) 0 vs a).put o.dst v) w'') → if Region.wanted o (yielded ops (fillV (ops.toList.take n) 0 vs a).tmps) = true then Oper.wp P o (fillV (ops.toList.take n) 0 vs a) w' K Q else K ((fillV (ops.toList.take n) 0 vs a).put o.dst undef) w')
  (hrest : ∀ vs w', (∀ i, i < n → PP true i (vs i) w') → RelS w w' → wpList P ops Q (ops.toList.drop n) (fillV (ops.toList.take n) 0 vs a) w') : (Code.region id ops true).wp P Q a w := by
 let Clo : Array Bool → Prop := fun listed => ∀ j o, ops[j]? = some o → listed.getD j false = true → ∀ e ∈ o.after, Region.binds .any e = true → listed.getD e.on false = true
 refine wp_region_any hm (wpAny_inv3 (J := fun listed a' w' => Clo listed ∧ ((∃ vs, a' = fillV (ops.toList.take n) 0 vs a ∧ ((listed.getD s false = false ∧ Below w.heap.size w w') ∨ (listed.getD s false = true ∧ RelS w w')) ∧ (∀ i, i < n → listed.getD i false = true → PP (listed.getD s false) i (vs i) w') ∧ ∀ i, n ≤ i → listed.getD i false = false) ∨ (∃ m, n < m ∧ (∀ i, i < ops.size → listed.getD i false = decide (i < m)) ∧ m ≤ ops.size ∧ wpList P ops Q (ops.toList.drop m) a' w'))) hb ?_ ?_ _ _ _ _ (by simp) (by unfold unlisted; exact Nat.le_trans (List.length_filter_le _ _) (by simp)) ?_)
 ·rintro i o listed a' w' hi ho hs hun he ⟨hc, hJ⟩ K hK
  have hunl : listed.getD i false = false := by
   have h3 : i < listed.size := by omega
   simp only [Array.getD, h3, dite_true] at hun ⊢
   exact hun
  have hclo : Clo (listed.setIfInBounds i true) := by
   intro j o' ho' hj e hem hbd
   rw [getD_set] at hj ⊢
   by_cases hji : i = j
   ·subst hji
    rw [ho] at ho'
    cases ho'
    rw [he e hem hbd]; rfl
   ·have hj2 : listed.getD j false = true := by simpa [hji] using hj
    rw [hc j o' ho' hj2 e hem hbd]; rfl
  have nxt : ∀ m, m = i → n ≤ m → (∀ j, j < ops.size → listed.getD j false = decide (j < m)) → wpList P ops Q (ops.toList.drop m) a' w' → if Region.wanted o (yielded ops a'.tmps) = true then Oper.wp P o a' w' K Q ∨ (o.asks P a' w' ∧ LetsOut Q) else K (a'.put o.dst undef) w' := by
   rintro m rfl hnm hl hw
   have hd : ops.toList.drop m = o :: ops.toList.drop (m + 1) := by
    have h1 : m < ops.toList.length := by simpa using hi
    rw [List.drop_eq_getElem_cons h1]
    congr 1
    have : ops[m] = o := by rw [Array.getElem?_eq_getElem hi] at ho; exact Option.some.inj ho
    simpa using this
   rw [hd] at hw
   have go : ∀ a2 w2, wpList P ops Q (ops.toList.drop (m + 1)) a2 w2 → K a2 w2 := fun a2 w2 h2 => hK a2 w2 ⟨hclo, .inr ⟨m + 1, by omega, fun j hj => by
    rw [getD_set, hl j hj]
    by_cases h1 : j < m
    ·simp [h1]; omega
    ·by_cases h2 : j = m
     ·subst h2; simp; omega
     ·have h3 : ¬ m = j := fun e => h2 e.symm
      simp [h1, h3]; omega, by omega, h2⟩⟩
   unfold wpList at hw
   split
   ·rename_i hwt
    rw [if_pos hwt] at hw
    rcases hw with h1 | h1
    ·exact .inl (Oper.wp_mono go h1)
    ·exact .inr h1
   ·rename_i hwt
    rw [if_neg hwt] at hw
    exact go _ _ hw
  by_cases hin : i < n
  ·rcases hJ with ⟨vs, rfl, hB, hP, hF⟩ | ⟨m, hm1, hl, _⟩
   ·have fill : ∀ v, (fillV (ops.toList.take n) 0 vs a).put o.dst v = fillV (ops.toList.take n) 0 (upd vs i v) a := fun v => by
     have := fillV_put (ops.toList.take n) 0 vs a i o v (by rw [List.getElem?_take]; simp [hin]; simpa using ho) hn
     rw [this]; simp
    have low : ∀ j, n ≤ j → (listed.setIfInBounds i true).getD j false = false := fun j hj => by
     rw [getD_set, hF j hj]
     have : ¬ i = j := by omega
     simp [this]
    have was : ∀ j, j ≠ i → (listed.setIfInBounds i true).getD j false = listed.getD j false := fun j hj => by
     rw [getD_set]
     have : ¬ i = j := fun e => hj e.symm
     simp [this]
    have now : (listed.setIfInBounds i true).getD i false = true := by
     rw [getD_set]
     have : i < listed.size := by omega
     simp [this]
    have hed : ∀ e ∈ o.after, Region.binds .any e = true → PP (listed.getD s false) e.on (vs e.on) w' := fun e hem hbd => hP _ (by have := back_lt hb hi ho hem hbd; omega) (he e hem hbd)
    by_cases his : i = s
    ·subst his
     have hB' : Below w.heap.size w w' := by
      rcases hB with ⟨_, h1⟩ | ⟨h1, _⟩
      ·exact h1
      ·rw [hunl] at h1; cases h1
     rw [hunl] at hed hP
     have hst := hstepS o vs w' ho hed hB' K (fun v w'' hv hb' => hK _ _ ⟨hclo, .inl ⟨upd vs i v, fill v, .inr ⟨now, hS3 _ _ hB' hb'⟩, fun j hj hjl => by
      by_cases hji : j = i
      ·subst hji; rw [now]; simp [upd]; exact hv
      ·rw [now]; simp only [upd, hji, if_false]
       exact hmonoS _ _ _ _ hji hB' (hP j hj (by rw [was j hji] at hjl; exact hjl)) hb', low⟩⟩)
     split
     ·rename_i hwt; rw [if_pos hwt] at hst; exact .inl hst
     ·rename_i hwt; rw [if_neg hwt] at hst; exact hst
    ·have hst := hstep _ i o vs w' hin his ho hed (hB.elim (fun h => .inl h.2) (fun h => .inr h.2)) (fun hd => by
      rcases hB with ⟨_, h2⟩ | ⟨h1, _⟩
      ·exact h2
      ·exfalso
       cases hso : ops[s]? with
       | none => rw [hso] at hd; simp at hd
       | some o2 =>
        rw [hso, Option.map_some, Option.getD_some] at hd
        obtain ⟨x, hx, h3⟩ := Array.any_eq_true.1 hd
        simp only [Bool.and_eq_true, beq_iff_eq] at h3
        have h4 := hc _ o2 hso h1 _ (Array.getElem_mem hx) h3.1
        rw [h3.2, hunl] at h4
        cases h4) K (fun v w'' hv hb' => hK _ _ ⟨hclo, .inl ⟨upd vs i v, fill v, by
      rw [was s (fun e => his e.symm)]
      rcases hB with ⟨h1, h2⟩ | ⟨h1, h2⟩
      ·exact .inl ⟨h1, h2.trans (hb'.mono h2.size)⟩
      ·exact .inr ⟨h1, hS2 _ _ h2 hb'⟩, fun j hj hjl => by
      by_cases hji : j = i
      ·subst hji; rw [was s (fun e => his e.symm)]; rw [show upd vs j v j = v by simp [upd]]; exact hv
      ·rw [was s (fun e => his e.symm)]; simp only [upd, hji, if_false]
       exact hmono _ _ _ _ _ (hB.elim (fun h => .inl h.2) (fun h => .inr h.2)) (hP j hj (by rw [was j hji] at hjl; exact hjl)) hb', low⟩⟩)
     split
     ·rename_i hwt; rw [if_pos hwt] at hst; exact .inl hst
     ·rename_i hwt; rw [if_neg hwt] at hst; exact hst
   ·rw [hl i hi] at hunl
    have := of_decide_eq_false hunl
    omega
  ·have hall : ∀ j, j < i → listed.getD j false = true := by
    intro j hj
    unfold tailEdges at ht
    have h1 := List.all_eq_true.1 ht i (List.mem_range.2 hi)
    rw [decide_eq_false hin, Bool.false_or] at h1
    have h2 := List.all_eq_true.1 h1 j (List.mem_range.2 hj)
    exact waits_listed hc _ i j o ho he h2
   rcases hJ with ⟨vs, rfl, hB, hP, hF⟩ | ⟨m, hm1, hl, hm2, hw⟩
   ·have hin2 : n = i := by
     refine Classical.byContradiction fun hne => ?_
     have := hall n (by omega)
     rw [hF n (Nat.le_refl _)] at this
     cases this
    refine nxt n hin2 (Nat.le_refl _) (fun j hj => ?_) (hrest vs w' (fun j hj => by have q := hP j hj (hall j (by omega)); rw [hall s (by omega)] at q; exact q) (by
     rcases hB with ⟨h1, _⟩ | ⟨_, h2⟩
     ·rw [hall s (by omega)] at h1; cases h1
     ·exact h2))
    by_cases h1 : j < n
    ·rw [decide_eq_true h1]; exact hall j (by omega)
    ·rw [decide_eq_false h1]; exact hF j (by omega)
   ·have him : m = i := by
     rw [hl i hi] at hunl
     have h1 := of_decide_eq_false hunl
     refine Classical.byContradiction fun hne => ?_
     have h2 := hall m (by omega)
     rw [hl m (by omega)] at h2
     have := of_decide_eq_true h2
     omega
    exact nxt m him (by omega) hl hw
 ·rintro a' w' ⟨_, hJ⟩
  have hrep : ∀ i, i < ops.size → (Array.replicate ops.size true).getD i false = true := fun i hi => by simp [Array.getD, hi]
  rcases hJ with ⟨vs, rfl, hB, hP, hF⟩ | ⟨m, hm1, hl, hm2, hw⟩
  ·have hge : n = ops.size := by
    refine Classical.byContradiction fun hne => ?_
    have h1 := hF n (Nat.le_refl _)
    rw [hrep n (by omega)] at h1
    cases h1
   have := hrest vs w' (fun j hj => by have q := hP j hj (hrep j (by omega)); rw [hrep s (by omega)] at q; exact q) (by
    rcases hB with ⟨h1, _⟩ | ⟨_, h2⟩
    ·rw [hrep s (by omega)] at h1; cases h1
    ·exact h2)
   rw [List.drop_eq_nil_of_le (by simp [hge])] at this
   exact this
  ·have hge : m = ops.size := by
    refine Classical.byContradiction fun hne => ?_
    have h1 := hl m (by omega)
    rw [hrep m (by omega)] at h1
    have := of_decide_eq_true h1.symm
    omega
   rw [List.drop_eq_nil_of_le (by simp [hge])] at hw
   exact hw
 ·refine ⟨fun j o ho hj => ?_, .inl ⟨vs0, h0.symm, .inl ⟨by
   by_cases h : s < ops.size
   ·simp [Array.getD, h]
   ·simp [Array.getD, h], (Below.refl _ _).drew⟩, fun i hi hj => ?_, fun i hi => ?_⟩⟩
  ·exfalso
   by_cases h : j < ops.size
   ·simp [Array.getD, h] at hj
   ·simp [Array.getD, h] at hj
  ·exfalso
   by_cases h : i < ops.size
   ·simp [Array.getD, h] at hj
   ·simp [Array.getD, h] at hj
  ·by_cases h : i < ops.size
   ·simp [Array.getD, h]
   ·simp [Array.getD, h]
end
end
section
/- Walks: whether a state without a package satisfies (truth: Without). -/




open Go.RowKit Go.Shelf
set_option linter.unusedVariables false

theorem own_monoT {base base' : Nat} {e : TypeId} {v : Value} {S : List Int} {W : World} (h : Own encI 1 base e v S W) (hb : base' ≤ base) : Own encI 1 base' e v S W :=
 ⟨h.1, h.2.imp id fun ⟨b, cap, cs, e1, e2, r⟩ => ⟨b, cap, cs, e1, Nat.le_trans hb e2, r⟩⟩
theorem less_eq (S : List Int) (x : Int) : (S.filter fun s => !(s == x)) = lessV S x := by
 unfold lessV
 congr 1
 funext z
 by_cases h : z = x
 ·simp [h]
 ·simp [h]
set_option maxRecDepth 100000 in
theorem wout1_any (z x : Int) (b : Nat) (W : World) (hc : W.cell? ⟨b, 0, none⟩ = some (.int .i64 x)) : Calls Tryz.prog 112 (#[.int .i64 z] ++ #[.pointer (some ⟨b, 0, none⟩)]) W fun e w' => e = .returned (.bool (z == x)) ∧ Below W.heap.size W w' := by
 show Calls Tryz.prog 112 #[.int .i64 z, .pointer (some ⟨b, 0, none⟩)] W _
 go_enter Tryz.func112, Tryz.ntmps112
 go_wp2_with fail
 go_ret
 exact ⟨rfl, Below.refl _ _⟩
set_option maxRecDepth 100000 in
set_option maxHeartbeats 16000000 in
theorem del0_any (g : FuncId) (eg : ∀ args w, (callFunc g args).run Tryz.prog w = .ok (.enter g args) w) (cp : Array Value) (A : Option Addr) (c : Nat) (W : World) (h : Rd encI 1 W.heap.size A c ([] : List Int) W) : Calls Tryz.prog 110 #[.slice A 0 c, .func (.func g) #[] cp] W fun e w' => e = .returned (.slice A 0 c) ∧ Below W.heap.size W w' := by
 have IX := Lib.hid (idxat2_any g eg cp (fun _ => false) [] 0 rfl A c W h (by decide) (fun s hs => by cases hs))
 clear h
 go_enter Tryz.func110, Tryz.ntmps110
 go_wp2_with fail
 go_at_call 156
 refine IX.out.mono ?_
 rintro en w1 ⟨hcase, h⟩
 have B1 := Lib.hid h
 clear h IX
 rcases hcase with ⟨rfl, _⟩ | ⟨k, hk, _⟩
 ·go_wp2_with fail
  go_ret
  exact ⟨rfl, B1.out⟩
 ·exact absurd hk (Nat.not_lt_zero _)
theorem delown_any (g : FuncId) (eg : ∀ args w, (callFunc g args).run Tryz.prog w = .ok (.enter g args) w) (cp : Array Value) (x? : Int → Bool) (S : List Int) (base : Nat) (w0 W : World) (v : Value) (ho : Own encI 1 base 3 v S W) (h0 : Below base w0 W) (hb : base ≤ W.heap.size) (hS : S.length ≤ 5000) (hp : ∀ s W', Below base w0 W' → Calls Tryz.prog g (#[.int .i64 s] ++ cp) W' fun e w' => e = .returned (.bool (x? s)) ∧ Below W'.heap.size W' w') :
  Calls Tryz.prog 110 #[v, .func (.func g) #[] cp] W fun e w' => ∃ A c, e = .returned (.slice A (S.filter fun s => !x? s).length c) ∧ Rd encI 1 w'.heap.size A c (S.filter fun s => !x? s) w' ∧ Below base W w' := by
 obtain ⟨A, c, rfl, hrd⟩ := ho.rd encI_len
 by_cases hS0 : S = []
 ·subst hS0
  refine (del0_any g eg cp A c W hrd).mono ?_
  rintro e w' ⟨rfl, h⟩
  exact ⟨A, c, rfl, (hrd.below h).more h.size, h.mono hb⟩
 ·obtain ⟨_, ⟨e1, e2⟩ | ⟨b, cap, cs, e1, e2, e3, _⟩⟩ := id ho
  ·exact absurd (List.eq_nil_of_length_eq_zero e2) hS0
  ·simp only [Value.slice.injEq] at e1
   obtain ⟨rfl, _, rfl⟩ := e1
   have hbw : b < W.heap.size := (Array.getElem?_eq_some_iff.1 e3).1
   refine (delint_any g eg cp x? S b c base W W e2 hbw (Below.refl _ _) (IRow.of_own ho) (by omega) hrd.1 hrd.2.1 hb (fun s W' h => hp s W' (h0.trans h))).mono ?_
   rintro e w' ⟨rfl, h1, h2⟩
   exact ⟨_, _, rfl, h1, h2⟩
def woP (T bx m c base : Nat) (A : Option Addr) (S : List Int) (x : Int) (R : RV) (r : Bool) (ph : Bool) (i : Nat) (v : Value) (W : World) : Prop := match i with
 | 0 => v = .pointer (some ⟨T, 0, none⟩)
 | 1 => v = .slice A m c
 | 2 => ph = false → Own encI 1 base 3 v S W
 | 3 => v = .func (.func 112) #[] #[.pointer (some ⟨bx, 0, none⟩)]
 | 4 => ∃ A' c', v = .slice A' (lessV S x).length c' ∧ Rd encI 1 W.heap.size A' c' (lessV S x) W
 | 5 => v = .agg #[.int .u8 R.kind, .string (bs R.dep.name), .int .u8 R.dep.op, .int .i64 R.dep.evr.epoch, .string (bs R.dep.evr.ver), .string (bs R.dep.evr.rel), .slice R.addr R.args.length R.cap]
 | 6 => v = .bool r
 | 7 => v = .bool r
 | _ => False
theorem woP_mono (T bx m c base : Nat) (A : Option Addr) (S : List Int) (x : Int) (R : RV) (r : Bool) (w : World) : ∀ ph i v w' w'', (Below w.heap.size w w' ∨ Below base w w') → woP T bx m c base A S x R r ph i v w' → Below w'.heap.size w' w'' → woP T bx m c base A S x R r ph i v w'' := by
 intro ph i v w' w'' _ h hb
 match i, h with
 | 0, h => exact h
 | 1, h => exact h
 | 2, h => exact fun e => Own.below (h e) hb (Nat.le_refl _)
 | 3, h => exact h
 | 4, h => exact h.elim fun A h => h.elim fun c h => ⟨A, c, h.1, (h.2.below hb).more hb.size⟩
 | 5, h => exact h
 | 6, h => exact h
 | 7, h => exact h
 | (k + 8), h => exact h.elim
theorem woP_monoS (T bx m c base : Nat) (A : Option Addr) (S : List Int) (x : Int) (R : RV) (r : Bool) (w : World) : ∀ i v w' w'', i ≠ 4 → Below w.heap.size w w' → woP T bx m c base A S x R r false i v w' → Below base w' w'' → woP T bx m c base A S x R r true i v w'' := by
 intro i v w' w'' hne _ h hb
 match i, h with
 | 0, h => exact h
 | 1, h => exact h
 | 2, h => exact fun e => by cases e
 | 3, h => exact h
 | 4, h => exact absurd rfl hne
 | 5, h => exact h
 | 6, h => exact h
 | 7, h => exact h
 | (k + 8), h => exact h.elim
set_option maxRecDepth 100000 in
set_option maxHeartbeats 16000000 in
theorem twithout_any {T X N : Nat} {L : List Pk} {w : World} (hT : TruthAt T X N L w) (hI : WhIn w) (A : Option Addr) (c : Nat) (S : List Int) (hS : Rd encI 1 w.heap.size A c S w) (hSl : S.length ≤ 5000) (x : Int) (R : RV) (hR : RTree w.heap.size w R) (hp : R.tree.parts ≤ 1000000) :
  Calls Tryz.prog 53 #[.pointer (some ⟨T, 0, none⟩), .slice A S.length c, .int .i64 x, R.val] w fun e w' => e = .returned (.bool (Tr.satS N (pvL L) (lessV S x) R.tree)) ∧ Below w.heap.size w w' := by
 have b1 := ((Below.refl w.heap.size w).alloc (Nat.le_refl _) (.cells #[.int .i64 x] 3)).alloc (by simp) (.cells #[.int .u8 R.kind, .string (bs R.dep.name), .int .u8 R.dep.op, .int .i64 R.dep.evr.epoch, .string (bs R.dep.evr.ver), .string (bs R.dep.evr.rel), .slice R.addr R.args.length R.cap] 39)
 have RB := RBx.new R (w.alloc (.cells #[.int .i64 x] 3))
 obtain ⟨V, hV⟩ : ∃ V, V = (w.alloc (.cells #[.int .i64 x] 3)).alloc (.cells #[.int .u8 R.kind, .string (bs R.dep.name), .int .u8 R.dep.op, .int .i64 R.dep.evr.epoch, .string (bs R.dep.evr.ver), .string (bs R.dep.evr.rel), .slice R.addr R.args.length R.cap] 39) := ⟨_, rfl⟩
 rw [← hV] at b1 RB
 have sz : (w.alloc (.cells #[.int .i64 x] 3)).heap.size = w.heap.size + 1 := World.size_alloc _ _
 rw [sz] at RB
 have xc : V.cell? ⟨w.heap.size, 0, none⟩ = some (.int .i64 x) := by rw [hV]; simp [go_sem]
 have xl : w.heap.size < V.heap.size := by rw [hV]; simp; omega
 have CL := Lib.hid (fun W (hb : Below V.heap.size V W) => show Calls Tryz.prog 111 #[.slice A S.length c] W _ from tclone_any A c S W ((hS.below (b1.trans (hb.mono b1.size))).more (Nat.le_trans b1.size hb.size)) hSl)
 have ST := Lib.hid (fun W (hb : Below V.heap.size V W) A' c' (hr : Rd encI 1 W.heap.size A' c' (lessV S x) W) => tsat_any (hT.then (b1.trans (hb.mono b1.size))) (hI.below (b1.trans (hb.mono b1.size))) A' c' (lessV S x) hr R ((hR.keeps (b1.trans (hb.mono b1.size))).more (Nat.le_trans b1.size hb.size)) hp)
 have DL := Lib.hid (fun W (hb : Below V.heap.size V W) v (ho : Own encI 1 V.heap.size 3 v S W) => less_eq S x ▸ delown_any 112 (fun _ _ => rfl) #[.pointer (some ⟨w.heap.size, 0, none⟩)] (fun z => z == x) S V.heap.size V W v ho hb hb.size hSl (fun z W' hb' => wout1_any z x w.heap.size W' ((hb'.cell (p := ⟨w.heap.size, 0, none⟩) xl).trans xc)))
 obtain ⟨m, hm⟩ : ∃ m, S.length = m := ⟨_, rfl⟩
 obtain ⟨r, hr⟩ : ∃ r, Tr.satS N (pvL L) (lessV S x) R.tree = r := ⟨_, rfl⟩
 rw [hm] at CL ⊢
 rw [hr] at ST ⊢
 unfold RV.val at *
 have B1 := Lib.hid b1
 have RBV := Lib.hid RB
 have HV := Lib.hid hV
 clear hT hI hS hR hp hm hr b1 RB xc xl sz hSl hV
 go_enter Tryz.func53, Tryz.ntmps53
 go_wp2_with fail
 rw [← HV.out]
 clear HV
 refine wp_region_phase (PP := woP T w.heap.size m c V.heap.size A S x R r) (RelS := Below V.heap.size) 8 4 rfl (by kernel_rfl) (by kernel_rfl) (by decide) (by decide) (by decide) (woP_mono T w.heap.size m c V.heap.size A S x R r V) (woP_monoS T w.heap.size m c V.heap.size A S x R r V) (fun b c h1 h2 => h1.trans (h2.mono h1.size)) (fun b c h1 h2 => h1.trans h2) (fun ii => match ii with | 7 => .bool false | _ => undef) (by simp [fillV, put_someT, setIfInBounds_toArray, set_cons_zero, set_cons_succ]) ?_ ?_ ?_
 ·intro ph i o vs W hi hne ho he hor _ K hK
  simp only [take_succ_cons, take_zero, fillV, put_someT, setIfInBounds_toArray, set_cons_zero, set_cons_succ] at hK ⊢
  have BW := Lib.hid (show Below V.heap.size V W from hor.elim id id)
  have RBW := Lib.hid (RBV.out.then BW.out)
  obtain rfl | rfl | rfl | rfl | rfl | rfl | rfl | rfl := (show i = 0 ∨ i = 1 ∨ i = 2 ∨ i = 3 ∨ i = 4 ∨ i = 5 ∨ i = 6 ∨ i = 7 by exact (by have : i < 8 := hi; omega))
  ·simp only [getElem?_toArray, getElem?_cons_zero, getElem?_cons_succ, Option.some.injEq] at ho
   subst ho
   rw [if_pos (by rfl)]
   simp only [put_someT, setIfInBounds_toArray, set_cons_zero, set_cons_succ] at hK
   have HK := Lib.hid hK
   clear hK he
   clear hor hi hne
   go_simp
   exact HK.out _ _ rfl (Below.refl _ _)
  ·simp only [getElem?_toArray, getElem?_cons_zero, getElem?_cons_succ, Option.some.injEq] at ho
   subst ho
   rw [if_pos (by rfl)]
   simp only [put_someT, setIfInBounds_toArray, set_cons_zero, set_cons_succ] at hK
   have HK := Lib.hid hK
   clear hK he
   clear hor hi hne
   go_simp
   exact HK.out _ _ rfl (Below.refl _ _)
  ·simp only [getElem?_toArray, getElem?_cons_zero, getElem?_cons_succ, Option.some.injEq] at ho
   subst ho
   have e1 : vs 1 = _ := he ⟨1, .data⟩ (by simp) rfl
   rw [e1] at hK ⊢
   rw [if_pos (by rfl)]
   simp only [put_someT, setIfInBounds_toArray, set_cons_zero, set_cons_succ] at hK
   have HK := Lib.hid hK
   clear hK he
   clear hor hi hne
   have CLW := CL.out W BW.out
   go_simp
   go_at_call 111
   refine CLW.mono ?_
   rintro en w9 ⟨v9, rfl, ho, h⟩
   go_simp
   exact HK.out _ _ (fun _ => own_monoT ho BW.out.size) h
  ·simp only [getElem?_toArray, getElem?_cons_zero, getElem?_cons_succ, Option.some.injEq] at ho
   subst ho
   rw [if_pos (by rfl)]
   simp only [put_someT, setIfInBounds_toArray, set_cons_zero, set_cons_succ] at hK
   have HK := Lib.hid hK
   clear hK he
   clear hor hi hne
   go_simp
   exact HK.out _ _ rfl (Below.refl _ _)
  ·exact absurd rfl hne
  ·simp only [getElem?_toArray, getElem?_cons_zero, getElem?_cons_succ, Option.some.injEq] at ho
   subst ho
   rw [if_pos (by rfl)]
   simp only [put_someT, setIfInBounds_toArray, set_cons_zero, set_cons_succ] at hK
   have HK := Lib.hid hK
   clear hK he
   clear hor hi hne
   obtain ⟨_, c0, c1, c2, c3, c4, c5, c6⟩ := RBW.out
   go_simp
   exact HK.out _ _ rfl (Below.refl _ _)
  ·simp only [getElem?_toArray, getElem?_cons_zero, getElem?_cons_succ, Option.some.injEq] at ho
   subst ho
   have e0 : vs 0 = _ := he ⟨0, .data⟩ (by simp) rfl
   rw [e0] at hK ⊢
   obtain ⟨A9, c9, e9, r9⟩ := he ⟨4, .data⟩ (by simp) rfl
   rw [e9] at hK ⊢
   have R9 := Lib.hid r9
   have e5 : vs 5 = _ := he ⟨5, .data⟩ (by simp) rfl
   rw [e5] at hK ⊢
   rw [if_pos (by rfl)]
   simp only [put_someT, setIfInBounds_toArray, set_cons_zero, set_cons_succ] at hK
   have HK := Lib.hid hK
   clear hK he
   clear hor hi hne
   have STW := ST.out W BW.out A9 c9 R9.out
   go_simp
   go_at_call 40
   refine STW.mono ?_
   rintro en w9 ⟨rfl, h⟩
   go_simp
   exact HK.out _ _ rfl h
  ·simp only [getElem?_toArray, getElem?_cons_zero, getElem?_cons_succ, Option.some.injEq] at ho
   subst ho
   have e6 : vs 6 = _ := he ⟨6, .data⟩ (by simp) rfl
   rw [e6] at hK ⊢
   rw [if_pos (by rfl)]
   simp only [put_someT, setIfInBounds_toArray, set_cons_zero, set_cons_succ] at hK
   have HK := Lib.hid hK
   clear hK he
   clear hor hi hne
   go_simp
   exact HK.out _ _ rfl (Below.refl _ _)
 ·intro o vs W ho he hBW K hK
  simp only [take_succ_cons, take_zero, fillV, put_someT, setIfInBounds_toArray, set_cons_zero, set_cons_succ] at hK ⊢
  have BW := Lib.hid hBW
  simp only [getElem?_toArray, getElem?_cons_zero, getElem?_cons_succ, Option.some.injEq] at ho
  subst ho
  have OW := Lib.hid (show Own encI 1 V.heap.size 3 (vs 2) S W from (he ⟨2, .data⟩ (by simp) rfl : woP T w.heap.size m c V.heap.size A S x R r false 2 (vs 2) W) rfl)
  have e3 : vs 3 = _ := he ⟨3, .data⟩ (by simp) rfl
  rw [e3] at hK ⊢
  rw [if_pos (by rfl)]
  simp only [put_someT, setIfInBounds_toArray, set_cons_zero, set_cons_succ] at hK
  have HK := Lib.hid hK
  clear hK he
  have DLW := DL.out W BW.out (vs 2) OW.out
  generalize vs 2 = y2 at *
  clear hBW
  go_simp
  go_at_call 110
  refine DLW.mono ?_
  rintro en w9 ⟨A9, c9, rfl, hr9, h⟩
  go_simp
  exact HK.out _ _ ⟨A9, c9, rfl, hr9⟩ h
 ·intro vs W hall hBW
  have eo : vs 7 = .bool r := hall 7 (by decide)
  simp only [take_succ_cons, take_zero, List.drop_succ_cons, List.drop_zero, fillV, put_someT, put_noneC, setIfInBounds_toArray, set_cons_zero, set_cons_succ]
  rw [eo]
  generalize vs 0 = y0
  generalize vs 1 = y1
  generalize vs 2 = y2
  generalize vs 3 = y3
  generalize vs 4 = y4
  generalize vs 5 = y5
  generalize vs 6 = y6
  have BX := Lib.hid (B1.out.trans (hBW.mono B1.out.size))
  clear hall hBW eo
  go_wp2_with fail
  go_ret
  exact ⟨rfl, BX.out⟩
end
end Go.Proofs.YteobmfpbgnmffaaGreatDoor

/- TrNil -/
set_option linter.unusedSimpArgs false
set_option linter.unusedVariables false
open List (getElem?_toArray getElem?_cons_zero getElem?_cons_succ setIfInBounds_toArray set_cons_zero set_cons_succ take_succ_cons take_zero)
/- Walks: truth's functions at a nil receiver; truth.New of no pool. -/



namespace Go.Proofs.YteobmfpbgnmffaaGreatDoor
open Go.RowKit Go.Shelf
set_option linter.unusedVariables false

def tn14 (z : Nat) (i : Nat) (v : Value) (W : World) : Prop := match i with
 | 0 => v = .pointer none
 | 1 => v = .bool false
 | 2 => v = .bool false
 | 3 => v = undef
 | 4 => v = undef
 | 5 => v = .bool false
 | 6 => v = .bool false
 | 7 => v = undef
 | 8 => v = undef
 | 9 => v = undef
 | 10 => v = undef
 | 11 => v = undef
 | 12 => v = .bool false
 | 13 => v = .bool false
 | _ => False
theorem tn14_mono (z : Nat) : ∀ i v w w', tn14 z i v w → Below w.heap.size w w' → tn14 z i v w' := by
 intro i v w w' h hb
 match i, h with
 | 0, h => exact h
 | 1, h => exact h
 | 2, h => exact h
 | 3, h => exact h
 | 4, h => exact h
 | 5, h => exact h
 | 6, h => exact h
 | 7, h => exact h
 | 8, h => exact h
 | 9, h => exact h
 | 10, h => exact h
 | 11, h => exact h
 | 12, h => exact h
 | 13, h => exact h
 | (k + 14), h => exact h.elim
set_option maxRecDepth 100000 in
set_option maxHeartbeats 4000000 in
theorem matchnew_nil (w : World) : Calls Tryz.prog 107 #[.pointer none] w fun e w' => e = .returned (.tuple #[.pointer none, .int .i64 2]) ∧ Below w.heap.size w w' := by
 go_enter Tryz.func107, Tryz.ntmps107
 go_wp2_with fail
 exact bodyPost_ret (v := .tuple #[.pointer none, .int .i64 2]) (by simp [results, Tryz.results107, go_sem]) rfl ⟨rfl, Below.refl _ _⟩
set_option maxRecDepth 100000 in
set_option maxHeartbeats 4000000 in
theorem truthnew_nil (w : World) : Calls Tryz.prog 50 #[.pointer none] w fun e w' => e = .returned (.tuple #[.pointer none, .int .i64 2]) ∧ Below w.heap.size w w' := by
 go_enter Tryz.func50, Tryz.ntmps50
 go_wp2_with fail
 go_at_call 107
 refine (matchnew_nil _).mono ?_
 rintro e w1 ⟨rfl, h⟩
 have B1 := Lib.hid h
 clear h
 go_wp2_with fail
 exact bodyPost_ret (v := .tuple #[.pointer none, .int .i64 2]) (by simp [results, Tryz.results50, go_sem]) rfl ⟨rfl, B1.out⟩
set_option maxRecDepth 100000 in
set_option maxHeartbeats 4000000 in
theorem tsat_nil (A : Option Addr) (n c : Nat) (R : RV) (w : World) : Calls Tryz.prog 40 #[.pointer none, .slice A n c, R.val] w fun e w' => e = .returned (.bool false) ∧ Below w.heap.size w w' := by
 have B1 := Lib.hid ((Below.refl w.heap.size w).alloc (Nat.le_refl _) (.cells #[.int .u8 R.kind, .string (bs R.dep.name), .int .u8 R.dep.op, .int .i64 R.dep.evr.epoch, .string (bs R.dep.evr.ver), .string (bs R.dep.evr.rel), .slice R.addr R.args.length R.cap] 39))
 unfold RV.val
 go_enter Tryz.func40, Tryz.ntmps40
 go_wp2_with fail
 obtain ⟨V, hV⟩ : ∃ V, V = w.alloc (.cells #[.int .u8 R.kind, .string (bs R.dep.name), .int .u8 R.dep.op, .int .i64 R.dep.evr.epoch, .string (bs R.dep.evr.ver), .string (bs R.dep.evr.rel), .slice R.addr R.args.length R.cap] 39) := ⟨_, rfl⟩
 rw [← hV] at B1 ⊢
 clear hV
 refine wp_region_tail (PP := tn14 0) 14 rfl (by kernel_rfl) (by kernel_rfl) (by decide) (by decide) (tn14_mono 0) (fun ii => match ii with | 13 => .bool false | _ => undef) (by simp [fillV, put_someT, setIfInBounds_toArray, set_cons_zero, set_cons_succ]) ?_ ?_
 ·intro i o vs W hi ho he hBW K hK
  simp only [take_succ_cons, take_zero, fillV, put_someT, setIfInBounds_toArray, set_cons_zero, set_cons_succ] at hK ⊢
  obtain rfl | rfl | rfl | rfl | rfl | rfl | rfl | rfl | rfl | rfl | rfl | rfl | rfl | rfl := (show i = 0 ∨ i = 1 ∨ i = 2 ∨ i = 3 ∨ i = 4 ∨ i = 5 ∨ i = 6 ∨ i = 7 ∨ i = 8 ∨ i = 9 ∨ i = 10 ∨ i = 11 ∨ i = 12 ∨ i = 13 by exact (by have : i < 14 := hi; omega))
  ·simp only [getElem?_toArray, getElem?_cons_zero, getElem?_cons_succ, Option.some.injEq] at ho
   subst ho
   rw [if_pos (by rfl)]
   simp only [put_someT, setIfInBounds_toArray, set_cons_zero, set_cons_succ] at hK
   have HK := Lib.hid hK
   clear hK he hi hBW
   go_simp
   exact HK.out _ _ (by first | rfl | simp [tn14]) (Below.refl _ _)
  ·simp only [getElem?_toArray, getElem?_cons_zero, getElem?_cons_succ, Option.some.injEq] at ho
   subst ho
   have e0 : vs 0 = _ := he ⟨0, .data⟩ (by simp) rfl
   rw [e0] at hK ⊢
   rw [if_pos (by rfl)]
   simp only [put_someT, setIfInBounds_toArray, set_cons_zero, set_cons_succ] at hK
   have HK := Lib.hid hK
   clear hK he hi hBW
   go_simp
   exact HK.out _ _ (by first | rfl | simp [tn14]) (Below.refl _ _)
  ·simp only [getElem?_toArray, getElem?_cons_zero, getElem?_cons_succ, Option.some.injEq] at ho
   subst ho
   have e1 : vs 1 = _ := he ⟨1, .data⟩ (by simp) rfl
   rw [e1] at hK ⊢
   rw [if_pos (by rfl)]
   simp only [put_someT, setIfInBounds_toArray, set_cons_zero, set_cons_succ] at hK
   have HK := Lib.hid hK
   clear hK he hi hBW
   go_simp
   exact HK.out _ _ (by first | rfl | simp [tn14]) (Below.refl _ _)
  ·simp only [getElem?_toArray, getElem?_cons_zero, getElem?_cons_succ, Option.some.injEq] at ho
   subst ho
   have e2 : vs 2 = _ := he ⟨2, .guard⟩ (by simp) rfl
   rw [e2] at hK ⊢
   rw [if_neg (by exact Bool.false_ne_true)]
   exact hK _ _ rfl (Below.refl _ _)
  ·simp only [getElem?_toArray, getElem?_cons_zero, getElem?_cons_succ, Option.some.injEq] at ho
   subst ho
   have e2 : vs 2 = _ := he ⟨2, .guard⟩ (by simp) rfl
   rw [e2] at hK ⊢
   rw [if_neg (by exact Bool.false_ne_true)]
   exact hK _ _ rfl (Below.refl _ _)
  ·simp only [getElem?_toArray, getElem?_cons_zero, getElem?_cons_succ, Option.some.injEq] at ho
   subst ho
   have e2 : vs 2 = _ := he ⟨2, .data⟩ (by simp) rfl
   rw [e2] at hK ⊢
   have e4 : vs 4 = _ := he ⟨4, .data⟩ (by simp) rfl
   rw [e4] at hK ⊢
   rw [if_pos (by rfl)]
   simp only [put_someT, setIfInBounds_toArray, set_cons_zero, set_cons_succ] at hK
   have HK := Lib.hid hK
   clear hK he hi hBW
   go_simp
   exact HK.out _ _ (by first | rfl | simp [tn14]) (Below.refl _ _)
  ·simp only [getElem?_toArray, getElem?_cons_zero, getElem?_cons_succ, Option.some.injEq] at ho
   subst ho
   have e5 : vs 5 = _ := he ⟨5, .data⟩ (by simp) rfl
   rw [e5] at hK ⊢
   rw [if_pos (by rfl)]
   simp only [put_someT, setIfInBounds_toArray, set_cons_zero, set_cons_succ] at hK
   have HK := Lib.hid hK
   clear hK he hi hBW
   go_simp
   exact HK.out _ _ (by first | rfl | simp [tn14]) (Below.refl _ _)
  ·simp only [getElem?_toArray, getElem?_cons_zero, getElem?_cons_succ, Option.some.injEq] at ho
   subst ho
   have e6 : vs 6 = _ := he ⟨6, .guard⟩ (by simp) rfl
   rw [e6] at hK ⊢
   rw [if_neg (by exact Bool.false_ne_true)]
   exact hK _ _ rfl (Below.refl _ _)
  ·simp only [getElem?_toArray, getElem?_cons_zero, getElem?_cons_succ, Option.some.injEq] at ho
   subst ho
   have e6 : vs 6 = _ := he ⟨6, .guard⟩ (by simp) rfl
   rw [e6] at hK ⊢
   rw [if_neg (by exact Bool.false_ne_true)]
   exact hK _ _ rfl (Below.refl _ _)
  ·simp only [getElem?_toArray, getElem?_cons_zero, getElem?_cons_succ, Option.some.injEq] at ho
   subst ho
   have e6 : vs 6 = _ := he ⟨6, .guard⟩ (by simp) rfl
   rw [e6] at hK ⊢
   rw [if_neg (by exact Bool.false_ne_true)]
   exact hK _ _ rfl (Below.refl _ _)
  ·simp only [getElem?_toArray, getElem?_cons_zero, getElem?_cons_succ, Option.some.injEq] at ho
   subst ho
   have e6 : vs 6 = _ := he ⟨6, .guard⟩ (by simp) rfl
   rw [e6] at hK ⊢
   rw [if_neg (by exact Bool.false_ne_true)]
   exact hK _ _ rfl (Below.refl _ _)
  ·simp only [getElem?_toArray, getElem?_cons_zero, getElem?_cons_succ, Option.some.injEq] at ho
   subst ho
   have e6 : vs 6 = _ := he ⟨6, .guard⟩ (by simp) rfl
   rw [e6] at hK ⊢
   rw [if_neg (by exact Bool.false_ne_true)]
   exact hK _ _ rfl (Below.refl _ _)
  ·simp only [getElem?_toArray, getElem?_cons_zero, getElem?_cons_succ, Option.some.injEq] at ho
   subst ho
   have e6 : vs 6 = _ := he ⟨6, .data⟩ (by simp) rfl
   rw [e6] at hK ⊢
   have e11 : vs 11 = _ := he ⟨11, .data⟩ (by simp) rfl
   rw [e11] at hK ⊢
   rw [if_pos (by rfl)]
   simp only [put_someT, setIfInBounds_toArray, set_cons_zero, set_cons_succ] at hK
   have HK := Lib.hid hK
   clear hK he hi hBW
   go_simp
   exact HK.out _ _ (by first | rfl | simp [tn14]) (Below.refl _ _)
  ·simp only [getElem?_toArray, getElem?_cons_zero, getElem?_cons_succ, Option.some.injEq] at ho
   subst ho
   have e12 : vs 12 = _ := he ⟨12, .data⟩ (by simp) rfl
   rw [e12] at hK ⊢
   rw [if_pos (by rfl)]
   simp only [put_someT, setIfInBounds_toArray, set_cons_zero, set_cons_succ] at hK
   have HK := Lib.hid hK
   clear hK he hi hBW
   go_simp
   exact HK.out _ _ (by first | rfl | simp [tn14]) (Below.refl _ _)
 ·intro vs W hall hBW
  have eo : vs 13 = .bool false := hall 13 (by decide)
  simp only [take_succ_cons, take_zero, List.drop_succ_cons, List.drop_zero, fillV, put_someT, put_noneC, setIfInBounds_toArray, set_cons_zero, set_cons_succ]
  rw [eo]
  generalize vs 0 = y0
  generalize vs 1 = y1
  generalize vs 2 = y2
  generalize vs 3 = y3
  generalize vs 4 = y4
  generalize vs 5 = y5
  generalize vs 6 = y6
  generalize vs 7 = y7
  generalize vs 8 = y8
  generalize vs 9 = y9
  generalize vs 10 = y10
  generalize vs 11 = y11
  generalize vs 12 = y12
  have BX := Lib.hid (B1.out.trans (hBW.mono B1.out.size))
  clear hall hBW eo
  go_wp2_with fail
  go_ret
  exact ⟨rfl, BX.out⟩
set_option maxRecDepth 100000 in
set_option maxHeartbeats 4000000 in
theorem talone_nil (n : Int) (R : RV) (w : World) : Calls Tryz.prog 43 #[.pointer none, .int .i64 n, R.val] w fun e w' => e = .returned (.bool false) ∧ Below w.heap.size w w' := by
 have B1 := Lib.hid ((Below.refl w.heap.size w).alloc (Nat.le_refl _) (.cells #[.int .u8 R.kind, .string (bs R.dep.name), .int .u8 R.dep.op, .int .i64 R.dep.evr.epoch, .string (bs R.dep.evr.ver), .string (bs R.dep.evr.rel), .slice R.addr R.args.length R.cap] 39))
 unfold RV.val
 go_enter Tryz.func43, Tryz.ntmps43
 go_wp2_with fail
 go_ret
 exact ⟨rfl, B1.out⟩
set_option maxRecDepth 100000 in
set_option maxHeartbeats 4000000 in
theorem twho_nil (A : Option Addr) (n c : Nat) (R : RV) (w : World) : Calls Tryz.prog 41 #[.pointer none, .slice A n c, R.val] w fun e w' => e = .returned (.slice none 0 0) ∧ Below w.heap.size w w' := by
 have B1 := Lib.hid ((Below.refl w.heap.size w).alloc (Nat.le_refl _) (.cells #[.int .u8 R.kind, .string (bs R.dep.name), .int .u8 R.dep.op, .int .i64 R.dep.evr.epoch, .string (bs R.dep.evr.ver), .string (bs R.dep.evr.rel), .slice R.addr R.args.length R.cap] 39))
 unfold RV.val
 go_enter Tryz.func41, Tryz.ntmps41
 go_wp2_with fail
 go_ret
 exact ⟨rfl, B1.out⟩
def woN (bx m c base : Nat) (A : Option Addr) (S : List Int) (x : Int) (R : RV) (r : Bool) (ph : Bool) (i : Nat) (v : Value) (W : World) : Prop := match i with
 | 0 => v = .pointer none
 | 1 => v = .slice A m c
 | 2 => ph = false → Own encI 1 base 3 v S W
 | 3 => v = .func (.func 112) #[] #[.pointer (some ⟨bx, 0, none⟩)]
 | 4 => ∃ A' c', v = .slice A' (lessV S x).length c' ∧ Rd encI 1 W.heap.size A' c' (lessV S x) W
 | 5 => v = .agg #[.int .u8 R.kind, .string (bs R.dep.name), .int .u8 R.dep.op, .int .i64 R.dep.evr.epoch, .string (bs R.dep.evr.ver), .string (bs R.dep.evr.rel), .slice R.addr R.args.length R.cap]
 | 6 => v = .bool r
 | 7 => v = .bool r
 | _ => False
theorem woN_mono (bx m c base : Nat) (A : Option Addr) (S : List Int) (x : Int) (R : RV) (r : Bool) (w : World) : ∀ ph i v w' w'', (Below w.heap.size w w' ∨ Below base w w') → woN bx m c base A S x R r ph i v w' → Below w'.heap.size w' w'' → woN bx m c base A S x R r ph i v w'' := by
 intro ph i v w' w'' _ h hb
 match i, h with
 | 0, h => exact h
 | 1, h => exact h
 | 2, h => exact fun e => Own.below (h e) hb (Nat.le_refl _)
 | 3, h => exact h
 | 4, h => exact h.elim fun A h => h.elim fun c h => ⟨A, c, h.1, (h.2.below hb).more hb.size⟩
 | 5, h => exact h
 | 6, h => exact h
 | 7, h => exact h
 | (k + 8), h => exact h.elim
theorem woN_monoS (bx m c base : Nat) (A : Option Addr) (S : List Int) (x : Int) (R : RV) (r : Bool) (w : World) : ∀ i v w' w'', i ≠ 4 → Below w.heap.size w w' → woN bx m c base A S x R r false i v w' → Below base w' w'' → woN bx m c base A S x R r true i v w'' := by
 intro i v w' w'' hne _ h hb
 match i, h with
 | 0, h => exact h
 | 1, h => exact h
 | 2, h => exact fun e => by cases e
 | 3, h => exact h
 | 4, h => exact absurd rfl hne
 | 5, h => exact h
 | 6, h => exact h
 | 7, h => exact h
 | (k + 8), h => exact h.elim
set_option maxRecDepth 100000 in
set_option maxHeartbeats 16000000 in
theorem twithout_nil {w : World} (A : Option Addr) (c : Nat) (S : List Int) (hS : Rd encI 1 w.heap.size A c S w) (hSl : S.length ≤ 5000) (x : Int) (R : RV) : Calls Tryz.prog 53 #[.pointer none, .slice A S.length c, .int .i64 x, R.val] w fun e w' => e = .returned (.bool false) ∧ Below w.heap.size w w' := by
 have b1 := ((Below.refl w.heap.size w).alloc (Nat.le_refl _) (.cells #[.int .i64 x] 3)).alloc (by simp) (.cells #[.int .u8 R.kind, .string (bs R.dep.name), .int .u8 R.dep.op, .int .i64 R.dep.evr.epoch, .string (bs R.dep.evr.ver), .string (bs R.dep.evr.rel), .slice R.addr R.args.length R.cap] 39)
 have RB := RBx.new R (w.alloc (.cells #[.int .i64 x] 3))
 obtain ⟨V, hV⟩ : ∃ V, V = (w.alloc (.cells #[.int .i64 x] 3)).alloc (.cells #[.int .u8 R.kind, .string (bs R.dep.name), .int .u8 R.dep.op, .int .i64 R.dep.evr.epoch, .string (bs R.dep.evr.ver), .string (bs R.dep.evr.rel), .slice R.addr R.args.length R.cap] 39) := ⟨_, rfl⟩
 rw [← hV] at b1 RB
 have sz : (w.alloc (.cells #[.int .i64 x] 3)).heap.size = w.heap.size + 1 := World.size_alloc _ _
 rw [sz] at RB
 have xc : V.cell? ⟨w.heap.size, 0, none⟩ = some (.int .i64 x) := by rw [hV]; simp [go_sem]
 have xl : w.heap.size < V.heap.size := by rw [hV]; simp; omega
 have CL := Lib.hid (fun W (hb : Below V.heap.size V W) => show Calls Tryz.prog 111 #[.slice A S.length c] W _ from tclone_any A c S W ((hS.below (b1.trans (hb.mono b1.size))).more (Nat.le_trans b1.size hb.size)) hSl)
 have ST := Lib.hid (fun W (hb : Below V.heap.size V W) A' c' (hr : Rd encI 1 W.heap.size A' c' (lessV S x) W) => tsat_nil A' (lessV S x).length c' R W)
 have DL := Lib.hid (fun W (hb : Below V.heap.size V W) v (ho : Own encI 1 V.heap.size 3 v S W) => less_eq S x ▸ delown_any 112 (fun _ _ => rfl) #[.pointer (some ⟨w.heap.size, 0, none⟩)] (fun z => z == x) S V.heap.size V W v ho hb hb.size hSl (fun z W' hb' => wout1_any z x w.heap.size W' ((hb'.cell (p := ⟨w.heap.size, 0, none⟩) xl).trans xc)))
 obtain ⟨m, hm⟩ : ∃ m, S.length = m := ⟨_, rfl⟩
 obtain ⟨r, hr⟩ : ∃ r, false = r := ⟨_, rfl⟩
 rw [hm] at CL ⊢
 rw [hr] at ST ⊢
 unfold RV.val at *
 have B1 := Lib.hid b1
 have RBV := Lib.hid RB
 have HV := Lib.hid hV
 clear hS hm hr b1 RB xc xl sz hSl hV
 go_enter Tryz.func53, Tryz.ntmps53
 go_wp2_with fail
 rw [← HV.out]
 clear HV
 refine wp_region_phase (PP := woN w.heap.size m c V.heap.size A S x R r) (RelS := Below V.heap.size) 8 4 rfl (by kernel_rfl) (by kernel_rfl) (by decide) (by decide) (by decide) (woN_mono w.heap.size m c V.heap.size A S x R r V) (woN_monoS w.heap.size m c V.heap.size A S x R r V) (fun b c h1 h2 => h1.trans (h2.mono h1.size)) (fun b c h1 h2 => h1.trans h2) (fun ii => match ii with | 7 => .bool false | _ => undef) (by simp [fillV, put_someT, setIfInBounds_toArray, set_cons_zero, set_cons_succ]) ?_ ?_ ?_
 ·intro ph i o vs W hi hne ho he hor _ K hK
  simp only [take_succ_cons, take_zero, fillV, put_someT, setIfInBounds_toArray, set_cons_zero, set_cons_succ] at hK ⊢
  have BW := Lib.hid (show Below V.heap.size V W from hor.elim id id)
  have RBW := Lib.hid (RBV.out.then BW.out)
  obtain rfl | rfl | rfl | rfl | rfl | rfl | rfl | rfl := (show i = 0 ∨ i = 1 ∨ i = 2 ∨ i = 3 ∨ i = 4 ∨ i = 5 ∨ i = 6 ∨ i = 7 by exact (by have : i < 8 := hi; omega))
  ·simp only [getElem?_toArray, getElem?_cons_zero, getElem?_cons_succ, Option.some.injEq] at ho
   subst ho
   rw [if_pos (by rfl)]
   simp only [put_someT, setIfInBounds_toArray, set_cons_zero, set_cons_succ] at hK
   have HK := Lib.hid hK
   clear hK he
   clear hor hi hne
   go_simp
   exact HK.out _ _ rfl (Below.refl _ _)
  ·simp only [getElem?_toArray, getElem?_cons_zero, getElem?_cons_succ, Option.some.injEq] at ho
   subst ho
   rw [if_pos (by rfl)]
   simp only [put_someT, setIfInBounds_toArray, set_cons_zero, set_cons_succ] at hK
   have HK := Lib.hid hK
   clear hK he
   clear hor hi hne
   go_simp
   exact HK.out _ _ rfl (Below.refl _ _)
  ·simp only [getElem?_toArray, getElem?_cons_zero, getElem?_cons_succ, Option.some.injEq] at ho
   subst ho
   have e1 : vs 1 = _ := he ⟨1, .data⟩ (by simp) rfl
   rw [e1] at hK ⊢
   rw [if_pos (by rfl)]
   simp only [put_someT, setIfInBounds_toArray, set_cons_zero, set_cons_succ] at hK
   have HK := Lib.hid hK
   clear hK he
   clear hor hi hne
   have CLW := CL.out W BW.out
   go_simp
   go_at_call 111
   refine CLW.mono ?_
   rintro en w9 ⟨v9, rfl, ho, h⟩
   go_simp
   exact HK.out _ _ (fun _ => own_monoT ho BW.out.size) h
  ·simp only [getElem?_toArray, getElem?_cons_zero, getElem?_cons_succ, Option.some.injEq] at ho
   subst ho
   rw [if_pos (by rfl)]
   simp only [put_someT, setIfInBounds_toArray, set_cons_zero, set_cons_succ] at hK
   have HK := Lib.hid hK
   clear hK he
   clear hor hi hne
   go_simp
   exact HK.out _ _ rfl (Below.refl _ _)
  ·exact absurd rfl hne
  ·simp only [getElem?_toArray, getElem?_cons_zero, getElem?_cons_succ, Option.some.injEq] at ho
   subst ho
   rw [if_pos (by rfl)]
   simp only [put_someT, setIfInBounds_toArray, set_cons_zero, set_cons_succ] at hK
   have HK := Lib.hid hK
   clear hK he
   clear hor hi hne
   obtain ⟨_, c0, c1, c2, c3, c4, c5, c6⟩ := RBW.out
   go_simp
   exact HK.out _ _ rfl (Below.refl _ _)
  ·simp only [getElem?_toArray, getElem?_cons_zero, getElem?_cons_succ, Option.some.injEq] at ho
   subst ho
   have e0 : vs 0 = _ := he ⟨0, .data⟩ (by simp) rfl
   rw [e0] at hK ⊢
   obtain ⟨A9, c9, e9, r9⟩ := he ⟨4, .data⟩ (by simp) rfl
   rw [e9] at hK ⊢
   have R9 := Lib.hid r9
   have e5 : vs 5 = _ := he ⟨5, .data⟩ (by simp) rfl
   rw [e5] at hK ⊢
   rw [if_pos (by rfl)]
   simp only [put_someT, setIfInBounds_toArray, set_cons_zero, set_cons_succ] at hK
   have HK := Lib.hid hK
   clear hK he
   clear hor hi hne
   have STW := ST.out W BW.out A9 c9 R9.out
   go_simp
   go_at_call 40
   refine STW.mono ?_
   rintro en w9 ⟨rfl, h⟩
   go_simp
   exact HK.out _ _ rfl h
  ·simp only [getElem?_toArray, getElem?_cons_zero, getElem?_cons_succ, Option.some.injEq] at ho
   subst ho
   have e6 : vs 6 = _ := he ⟨6, .data⟩ (by simp) rfl
   rw [e6] at hK ⊢
   rw [if_pos (by rfl)]
   simp only [put_someT, setIfInBounds_toArray, set_cons_zero, set_cons_succ] at hK
   have HK := Lib.hid hK
   clear hK he
   clear hor hi hne
   go_simp
   exact HK.out _ _ rfl (Below.refl _ _)
 ·intro o vs W ho he hBW K hK
  simp only [take_succ_cons, take_zero, fillV, put_someT, setIfInBounds_toArray, set_cons_zero, set_cons_succ] at hK ⊢
  have BW := Lib.hid hBW
  simp only [getElem?_toArray, getElem?_cons_zero, getElem?_cons_succ, Option.some.injEq] at ho
  subst ho
  have OW := Lib.hid (show Own encI 1 V.heap.size 3 (vs 2) S W from (he ⟨2, .data⟩ (by simp) rfl : woN w.heap.size m c V.heap.size A S x R r false 2 (vs 2) W) rfl)
  have e3 : vs 3 = _ := he ⟨3, .data⟩ (by simp) rfl
  rw [e3] at hK ⊢
  rw [if_pos (by rfl)]
  simp only [put_someT, setIfInBounds_toArray, set_cons_zero, set_cons_succ] at hK
  have HK := Lib.hid hK
  clear hK he
  have DLW := DL.out W BW.out (vs 2) OW.out
  generalize vs 2 = y2 at *
  clear hBW
  go_simp
  go_at_call 110
  refine DLW.mono ?_
  rintro en w9 ⟨A9, c9, rfl, hr9, h⟩
  go_simp
  exact HK.out _ _ ⟨A9, c9, rfl, hr9⟩ h
 ·intro vs W hall hBW
  have eo : vs 7 = .bool r := hall 7 (by decide)
  simp only [take_succ_cons, take_zero, List.drop_succ_cons, List.drop_zero, fillV, put_someT, put_noneC, setIfInBounds_toArray, set_cons_zero, set_cons_succ]
  rw [eo]
  generalize vs 0 = y0
  generalize vs 1 = y1
  generalize vs 2 = y2
  generalize vs 3 = y3
  generalize vs 4 = y4
  generalize vs 5 = y5
  generalize vs 6 = y6
  have BX := Lib.hid (B1.out.trans (hBW.mono B1.out.size))
  clear hall hBW eo
  go_wp2_with fail
  go_ret
  exact ⟨rfl, BX.out⟩
end Go.Proofs.YteobmfpbgnmffaaGreatDoor

/- TrNmM -/
set_option linter.unusedSimpArgs false
set_option linter.unusedVariables false
/- TruthNames: the table, as it lies; what its rows come to. -/




namespace Go.Proofs.YteobmfpbgnmffaaGreatDoor
open Go.RowKit Go.Shelf
set_option linter.unusedVariables false

abbrev Want : Type := UInt8 × UInt8 × UInt8 × UInt8
def nmT : List (RT × Want) := [(RT.mk 2 zeroT [atomT [120], atomT [121]], (48, 48, 48, 49)), (RT.mk 3 zeroT [atomT [120], atomT [121]], (48, 49, 49, 49)), (RT.mk 4 zeroT [atomT [120], atomT [121]], (49, 49, 48, 49)), (RT.mk 5 zeroT [atomT [120], atomT [121]], (48, 49, 48, 48)), (RT.mk 6 zeroT [atomT [120], atomT [121]], (48, 48, 48, 48)), (RT.mk 7 zeroT [atomT [120], atomT [121]], (48, 49, 48, 49)), (RT.mk 7 zeroT [atomT [120], atomT [120]], (48, 48, 48, 48)), (RT.mk 4 zeroT [atomT [120], atomT [121], atomT [121]], (48, 48, 48, 49)), (RT.mk 4 zeroT [atomT [121], atomT [121], atomT [120]], (48, 49, 49, 49)), (RT.mk 5 zeroT [atomT [120], atomT [121], atomT [120]], (48, 49, 48, 49)), (RT.mk 5 zeroT [atomT [121], atomT [121], atomT [120]], (48, 48, 48, 49)), (RT.mk 6 zeroT [atomT [120], atomT [120], atomT [120]], (48, 49, 48, 49)), (RT.mk 6 zeroT [RT.mk 3 zeroT [atomT [120], atomT [121]], atomT [122]], (48, 48, 49, 49)), (RT.mk 4 zeroT [atomT [120], RT.mk 2 zeroT [atomT [120], atomT [121]]], (49, 49, 49, 49)), (atomT [110, 111, 110, 101], (48, 48, 48, 48)), (RT.mk 5 zeroT [atomT [120], atomT [110, 111, 110, 101]], (48, 49, 48, 49)), (RT.mk 0 zeroT [], (48, 48, 48, 48)), (RT.mk 2 zeroT [atomT [120]], (48, 48, 48, 48)), (RT.mk 2 zeroT [], (48, 48, 48, 48)), (RT.mk 4 zeroT [atomT [120], atomT [110, 111, 110, 101], atomT [120], atomT [120]], (48, 48, 48, 48)), (RT.mk 9 zeroT [], (48, 48, 48, 48))]
def nmS : Nat → List Int | 0 => [] | 1 => [0] | 2 => [1] | _ => [1, 0]
def nmW (p : Want) : Nat → UInt8 | 0 => p.1 | 1 => p.2.1 | 2 => p.2.2.1 | _ => p.2.2.2
theorem nmT_ok : (nmT.all fun p => ((List.range 4).all fun i => Tr.satS 2 PV (nmS i) p.1 == (nmW p.2 i == 49)) && decide (p.1.parts ≤ 1000)) = true := by decide +kernel
theorem nm_at {p : RT × Want} (hp : p ∈ nmT) {i : Nat} (hi : i < 4) : Tr.satS 2 PV (nmS i) p.1 = (nmW p.2 i == 49) := by
 have h := List.all_eq_true.1 nmT_ok p hp
 rw [Bool.and_eq_true] at h
 exact beq_iff_eq.1 (List.all_eq_true.1 h.1 i (List.mem_range.2 hi))
theorem nm_parts {p : RT × Want} (hp : p ∈ nmT) : p.1.parts ≤ 1000000 := by
 have h := List.all_eq_true.1 nmT_ok p hp
 rw [Bool.and_eq_true, decide_eq_true_eq] at h
 omega
theorem u8_eq49 (q : UInt8) : ((q.toNat : Int) == 49) = (q == 49) := by
 rw [Bool.eq_iff_iff, beq_iff_eq, beq_iff_eq]
 constructor
 ·intro h
  have h2 : q.toNat = 49 := by omega
  exact UInt8.toNat_inj.1 (h2.trans rfl)
 ·intro h; rw [h]; rfl
def encN (p : RV × Want) : List Value := encR p.1 ++ [.string ⟨#[p.2.1, p.2.2.1, p.2.2.2.1, p.2.2.2.2]⟩]
theorem encN_len (p : RV × Want) : (encN p).length = 8 := rfl
theorem Rd.nm_at {B : Nat} {A : Option Addr} {c : Nat} {D : List (RV × Want)} {W : World} (h : Rd encN 8 B A c D W) {k : Nat} (hk : k < D.length) : ∃ b o, A = some ⟨b, o, none⟩ ∧ b < B ∧ W.cell? ⟨b, o + k * 8, none⟩ = some (.int .u8 D[k].1.kind) ∧ W.cell? ⟨b, o + k * 8 + 1, none⟩ = some (.string (bs D[k].1.dep.name)) ∧ W.cell? ⟨b, o + k * 8 + 2, none⟩ = some (.int .u8 D[k].1.dep.op) ∧ W.cell? ⟨b, o + k * 8 + 3, none⟩ = some (.int .i64 D[k].1.dep.evr.epoch) ∧ W.cell? ⟨b, o + k * 8 + 4, none⟩ = some (.string (bs D[k].1.dep.evr.ver)) ∧ W.cell? ⟨b, o + k * 8 + 5, none⟩ = some (.string (bs D[k].1.dep.evr.rel)) ∧ W.cell? ⟨b, o + k * 8 + 6, none⟩ = some (.slice D[k].1.addr D[k].1.args.length D[k].1.cap) ∧ W.cell? ⟨b, o + k * 8 + 7, none⟩ = some (.string ⟨#[D[k].2.1, D[k].2.2.1, D[k].2.2.2.1, D[k].2.2.2.2]⟩) := by
 obtain ⟨b, o, e, hb, hc⟩ := h.cells hk
 exact ⟨b, o, e, hb, hc 0 _ rfl, hc 1 _ rfl, hc 2 _ rfl, hc 3 _ rfl, hc 4 _ rfl, hc 5 _ rfl, hc 6 _ rfl, hc 7 _ rfl⟩
/-- the four states, as they lie -/
structure StN (st s1 s2 s3 : Nat) (W : World) : Prop where
 lt : st < W.heap.size
 c0 : W.cell? ⟨st, 0, none⟩ = some (.slice none 0 0)
 c1 : W.cell? ⟨st, 1, none⟩ = some (.slice (some ⟨s1, 0, none⟩) 1 1)
 c2 : W.cell? ⟨st, 2, none⟩ = some (.slice (some ⟨s2, 0, none⟩) 1 1)
 c3 : W.cell? ⟨st, 3, none⟩ = some (.slice (some ⟨s3, 0, none⟩) 2 2)
 r1 : Rd encI 1 W.heap.size (some ⟨s1, 0, none⟩) 1 [0] W
 r2 : Rd encI 1 W.heap.size (some ⟨s2, 0, none⟩) 1 [1] W
 r3 : Rd encI 1 W.heap.size (some ⟨s3, 0, none⟩) 2 [1, 0] W
theorem StN.then {st s1 s2 s3 : Nat} {W W' : World} (h : StN st s1 s2 s3 W) (hb : Below W.heap.size W W') : StN st s1 s2 s3 W' := by
 have hc : ∀ i, W'.cell? ⟨st, i, none⟩ = W.cell? ⟨st, i, none⟩ := fun i => hb.cell (p := ⟨st, i, none⟩) h.lt
 exact ⟨Nat.lt_of_lt_of_le h.lt hb.size, (hc 0).trans h.c0, (hc 1).trans h.c1, (hc 2).trans h.c2, (hc 3).trans h.c3, (h.r1.below hb).more hb.size, (h.r2.below hb).more hb.size, (h.r3.below hb).more hb.size⟩
structure Nm (T X bx bY st s1 s2 s3 : Nat) (L2 : List Pk) (tab : List RV) (w0 W : World) : Prop where
 tr : TruthAt T X 2 L2 W
 ri : WhIn W
 old : Below w0.heap.size w0 W
 x : AtX bx ⟨#[120]⟩ W
 y : AtX bY ⟨#[121]⟩ W
 sn : StN st s1 s2 s3 W
 tab : ∀ t ∈ tab, RTree W.heap.size W t
section
variable {T X bx bY st s1 s2 s3 : Nat} {L2 : List Pk} {tab : List RV} {w0 W : World}
theorem Nm.then {W' : World} (h : Nm T X bx bY st s1 s2 s3 L2 tab w0 W) (hb : Below W.heap.size W W') : Nm T X bx bY st s1 s2 s3 L2 tab w0 W' :=
 ⟨h.tr.then hb, h.ri.below hb, h.old.trans (hb.mono h.old.size), h.x.then hb, h.y.then hb, h.sn.then hb, fun t ht => ((h.tab t ht).keeps hb).more hb.size⟩
theorem nm_of {W2 : World} {k : Int} {l : List RV} {cs : Array Value} {n : Nat} (h : Nm T X bx bY st s1 s2 s3 L2 tab w0 W) (hl : l.length = n) (hcs : cs.toList = l.flatMap encR) (hn : n ≤ 1000) (ht : ∀ t ∈ l, RTree W.heap.size W t) (hb : Below (W.alloc (.cells cs 39)).heap.size (W.alloc (.cells cs 39)) W2) : Nm T X bx bY st s1 s2 s3 L2 (.node k zeroT (some ⟨W.heap.size, 0, none⟩) n l :: tab) w0 W2 := by
 have h2 := (h.then ((Below.refl _ W).alloc (Nat.le_refl _) (.cells cs 39))).then hb
 refine ⟨h2.tr, h2.ri, h2.old, h2.x, h2.y, h2.sn, fun t hm => ?_⟩
 rcases List.mem_cons.1 hm with rfl | hm
 ·exact ((lit_tree hl hcs (by unfold maxLen; omega) ht).keeps hb).more hb.size
 ·exact h2.tab t hm
/-- a rich dependency of a tree; a row of Args; one of the table -/
def OfT (t : RT) (v : Value) (W : World) : Prop := ∃ R : RV, v = R.val ∧ R.tree = t ∧ RTree W.heap.size W R
theorem OfT.then {t : RT} {v : Value} {W W' : World} (h : OfT t v W) (hb : Below W.heap.size W W') : OfT t v W' := by
 obtain ⟨R, e, h1, h2⟩ := h
 exact ⟨R, e, h1, (h2.keeps hb).more hb.size⟩
def ArgsT (l : List RT) (v : Value) (W : World) : Prop := ∃ (D : List RV) (g : Nat), v = .slice (some ⟨g, 0, none⟩) D.length D.length ∧ D.map RV.tree = l ∧ ∀ k, RTree W.heap.size W (.node k zeroT (some ⟨g, 0, none⟩) D.length D)
theorem ArgsT.then {l : List RT} {v : Value} {W W' : World} (h : ArgsT l v W) (hb : Below W.heap.size W W') : ArgsT l v W' := by
 obtain ⟨D, g, e, h1, h2⟩ := h
 exact ⟨D, g, e, h1, fun k => ((h2 k).keeps hb).more hb.size⟩
theorem ArgsT.made {l : List RT} {D : List RV} {W : World} {cs : Array Value} (hm : D.map RV.tree = l) (hcs : cs.toList = D.flatMap encR) (hn : D.length ≤ 100) (h : ∀ t ∈ D, RTree W.heap.size W t) : ArgsT l (.slice (some ⟨W.heap.size, 0, none⟩) D.length D.length) (W.alloc (.cells cs 39)) :=
 ⟨D, W.heap.size, rfl, hm, fun k => lit_tree rfl hcs (by unfold maxLen; omega) h⟩
theorem OfT.made {k : Int} {l : List RT} {D : List RV} {g : Nat} {W : World} (hm : D.map RV.tree = l) (h : RTree W.heap.size W (.node k zeroT (some ⟨g, 0, none⟩) D.length D)) : OfT (.mk k zeroT l) (.agg #[.int .u8 k, .string ⟨#[]⟩, .int .u8 0, .int .i64 0, .string ⟨#[]⟩, .string ⟨#[]⟩, .slice (some ⟨g, 0, none⟩) D.length D.length]) W :=
 ⟨_, rfl, by show RT.mk k zeroT (treeL D) = _; rw [treeL_map, hm], h⟩
def EntT (t : RT) (p : Want) (v : Value) (W : World) : Prop := ∃ R : RV, v = .agg #[.int .u8 R.kind, .string (bs R.dep.name), .int .u8 R.dep.op, .int .i64 R.dep.evr.epoch, .string (bs R.dep.evr.ver), .string (bs R.dep.evr.rel), .slice R.addr R.args.length R.cap, .string ⟨#[p.1, p.2.1, p.2.2.1, p.2.2.2]⟩] ∧ R.tree = t ∧ RTree W.heap.size W R
theorem EntT.then {t : RT} {p : Want} {v : Value} {W W' : World} (h : EntT t p v W) (hb : Below W.heap.size W W') : EntT t p v W' := by
 obtain ⟨R, e, h1, h2⟩ := h
 exact ⟨R, e, h1, (h2.keeps hb).more hb.size⟩
def TabT (v : Value) (W : World) : Prop := ∃ (A : Option Addr) (PL : List (RV × Want)), v = .slice A 21 21 ∧ PL.length = 21 ∧ Rd encN 8 W.heap.size A 21 PL W ∧ (∀ p ∈ PL, RTree W.heap.size W p.1) ∧ PL.map (fun p => (p.1.tree, p.2)) = nmT
theorem TabT.then {v : Value} {W W' : World} (h : TabT v W) (hb : Below W.heap.size W W') : TabT v W' := by
 obtain ⟨A, PL, e, h1, h2, h3, h4⟩ := h
 exact ⟨A, PL, e, h1, (h2.below hb).more hb.size, fun p hp => ((h3 p hp).keeps hb).more hb.size, h4⟩
theorem TabT.made {W : World} {t : TypeId} {cs : Array Value} (PL : List (RV × Want)) (hl : PL.length = 21) (hm : PL.map (fun p => (p.1.tree, p.2)) = nmT) (ht : ∀ p ∈ PL, RTree W.heap.size W p.1) (hcs : cs = (PL.flatMap encN).toArray) : TabT (.slice (some ⟨W.heap.size, 0, none⟩) 21 21) (W.alloc (.cells cs t)) := by
 subst hcs
 have h := rd_litT encN_len PL W t (by omega)
 rw [hl] at h
 exact ⟨_, PL, rfl, hl, h, fun p hp => ((ht p hp).keeps ((Below.refl _ W).alloc (Nat.le_refl _) _)).more (by simp), hm⟩
theorem nm_no (k : Int) (B : Nat) (W : World) : RTree B W (.node k zeroT none 0 []) := .mk ⟨Nat.zero_le _, rfl, rfl, Nat.zero_le _, Nat.zero_le _⟩ (Rd.nil_ (Nat.zero_le _)) (fun a ha => by cases ha)
theorem nm_sat (h : Nm T X bx bY st s1 s2 s3 L2 tab w0 W) (hp : pvL L2 = PV) (A : Option Addr) (c : Nat) (S : List Int) (hS : Rd encI 1 W.heap.size A c S W) (R : RV) (hR : RTree W.heap.size W R) (hn : R.tree.parts ≤ 1000000) {r : Bool} (hr : Tr.satS 2 PV S R.tree = r) : Calls Tryz.prog 40 #[.pointer (some ⟨T, 0, none⟩), .slice A S.length c, R.val] W fun e w' => e = .returned (.bool r) ∧ Below W.heap.size W w' := by
 have q := tsat_any h.tr h.ri A c S hS R hR hn
 rw [hp, hr] at q
 exact q
theorem nm_wo (h : Nm T X bx bY st s1 s2 s3 L2 tab w0 W) (hp : pvL L2 = PV) (A : Option Addr) (c : Nat) (S : List Int) (hS : Rd encI 1 W.heap.size A c S W) (hl : S.length ≤ 5000) (z : Int) (R : RV) (hR : RTree W.heap.size W R) (hn : R.tree.parts ≤ 1000000) {r : Bool} (hr : Tr.satS 2 PV (lessV S z) R.tree = r) : Calls Tryz.prog 53 #[.pointer (some ⟨T, 0, none⟩), .slice A S.length c, .int .i64 z, R.val] W fun e w' => e = .returned (.bool r) ∧ Below W.heap.size W w' := by
 have q := twithout_any h.tr h.ri A c S hS hl z R hR hn
 rw [hp, hr] at q
 exact q
theorem nm_al (h : Nm T X bx bY st s1 s2 s3 L2 tab w0 W) (hp : pvL L2 = PV) (z : Int) (R : RV) (hR : RTree W.heap.size W R) (hn : R.tree.parts ≤ 1000000) {r : Bool} (hr : Tr.aloneS 2 PV z R.tree = r) : Calls Tryz.prog 43 #[.pointer (some ⟨T, 0, none⟩), .int .i64 z, R.val] W fun e w' => e = .returned (.bool r) ∧ Below W.heap.size W w' := by
 have q := talone_any h.tr h.ri z R hR hn
 rw [hp, hr] at q
 exact q
end
end Go.Proofs.YteobmfpbgnmffaaGreatDoor

/- TrNm -/
set_option linter.unusedSimpArgs false
set_option linter.unusedVariables false
open List (getElem?_toArray getElem?_cons_zero getElem?_cons_succ setIfInBounds_toArray set_cons_zero set_cons_succ take_succ_cons take_zero)
/- Walk: TruthNames. -/


namespace Go.Proofs.YteobmfpbgnmffaaGreatDoor
open Go.RowKit Go.Shelf
set_option linter.unusedVariables false

def tn10 (z : Nat) (i : Nat) (v : Value) (W : World) : Prop := match i with
 | 0 => v = .agg #[.int .u8 1, .string ⟨#[120]⟩, .int .u8 0, .int .i64 0, .string ⟨#[]⟩, .string ⟨#[]⟩, .slice none 0 0]
 | 1 => v = .agg #[.int .u8 1, .string ⟨#[121]⟩, .int .u8 0, .int .i64 0, .string ⟨#[]⟩, .string ⟨#[]⟩, .slice none 0 0]
 | 2 => ArgsT [atomT [120], atomT [121]] v W
 | 3 => OfT (RT.mk 2 zeroT [atomT [120], atomT [121]]) v W
 | 4 => EntT (RT.mk 2 zeroT [atomT [120], atomT [121]]) (48, 48, 48, 49) v W
 | 5 => v = .agg #[.int .u8 1, .string ⟨#[120]⟩, .int .u8 0, .int .i64 0, .string ⟨#[]⟩, .string ⟨#[]⟩, .slice none 0 0]
 | 6 => v = .agg #[.int .u8 1, .string ⟨#[121]⟩, .int .u8 0, .int .i64 0, .string ⟨#[]⟩, .string ⟨#[]⟩, .slice none 0 0]
 | 7 => ArgsT [atomT [120], atomT [121]] v W
 | 8 => OfT (RT.mk 3 zeroT [atomT [120], atomT [121]]) v W
 | 9 => EntT (RT.mk 3 zeroT [atomT [120], atomT [121]]) (48, 49, 49, 49) v W
 | 10 => v = .agg #[.int .u8 1, .string ⟨#[120]⟩, .int .u8 0, .int .i64 0, .string ⟨#[]⟩, .string ⟨#[]⟩, .slice none 0 0]
 | 11 => v = .agg #[.int .u8 1, .string ⟨#[121]⟩, .int .u8 0, .int .i64 0, .string ⟨#[]⟩, .string ⟨#[]⟩, .slice none 0 0]
 | 12 => ArgsT [atomT [120], atomT [121]] v W
 | 13 => OfT (RT.mk 4 zeroT [atomT [120], atomT [121]]) v W
 | 14 => EntT (RT.mk 4 zeroT [atomT [120], atomT [121]]) (49, 49, 48, 49) v W
 | 15 => v = .agg #[.int .u8 1, .string ⟨#[120]⟩, .int .u8 0, .int .i64 0, .string ⟨#[]⟩, .string ⟨#[]⟩, .slice none 0 0]
 | 16 => v = .agg #[.int .u8 1, .string ⟨#[121]⟩, .int .u8 0, .int .i64 0, .string ⟨#[]⟩, .string ⟨#[]⟩, .slice none 0 0]
 | 17 => ArgsT [atomT [120], atomT [121]] v W
 | 18 => OfT (RT.mk 5 zeroT [atomT [120], atomT [121]]) v W
 | 19 => EntT (RT.mk 5 zeroT [atomT [120], atomT [121]]) (48, 49, 48, 48) v W
 | 20 => v = .agg #[.int .u8 1, .string ⟨#[120]⟩, .int .u8 0, .int .i64 0, .string ⟨#[]⟩, .string ⟨#[]⟩, .slice none 0 0]
 | 21 => v = .agg #[.int .u8 1, .string ⟨#[121]⟩, .int .u8 0, .int .i64 0, .string ⟨#[]⟩, .string ⟨#[]⟩, .slice none 0 0]
 | 22 => ArgsT [atomT [120], atomT [121]] v W
 | 23 => OfT (RT.mk 6 zeroT [atomT [120], atomT [121]]) v W
 | 24 => EntT (RT.mk 6 zeroT [atomT [120], atomT [121]]) (48, 48, 48, 48) v W
 | 25 => v = .agg #[.int .u8 1, .string ⟨#[120]⟩, .int .u8 0, .int .i64 0, .string ⟨#[]⟩, .string ⟨#[]⟩, .slice none 0 0]
 | 26 => v = .agg #[.int .u8 1, .string ⟨#[121]⟩, .int .u8 0, .int .i64 0, .string ⟨#[]⟩, .string ⟨#[]⟩, .slice none 0 0]
 | 27 => ArgsT [atomT [120], atomT [121]] v W
 | 28 => OfT (RT.mk 7 zeroT [atomT [120], atomT [121]]) v W
 | 29 => EntT (RT.mk 7 zeroT [atomT [120], atomT [121]]) (48, 49, 48, 49) v W
 | 30 => v = .agg #[.int .u8 1, .string ⟨#[120]⟩, .int .u8 0, .int .i64 0, .string ⟨#[]⟩, .string ⟨#[]⟩, .slice none 0 0]
 | 31 => v = .agg #[.int .u8 1, .string ⟨#[120]⟩, .int .u8 0, .int .i64 0, .string ⟨#[]⟩, .string ⟨#[]⟩, .slice none 0 0]
 | 32 => ArgsT [atomT [120], atomT [120]] v W
 | 33 => OfT (RT.mk 7 zeroT [atomT [120], atomT [120]]) v W
 | 34 => EntT (RT.mk 7 zeroT [atomT [120], atomT [120]]) (48, 48, 48, 48) v W
 | 35 => v = .agg #[.int .u8 1, .string ⟨#[120]⟩, .int .u8 0, .int .i64 0, .string ⟨#[]⟩, .string ⟨#[]⟩, .slice none 0 0]
 | 36 => v = .agg #[.int .u8 1, .string ⟨#[121]⟩, .int .u8 0, .int .i64 0, .string ⟨#[]⟩, .string ⟨#[]⟩, .slice none 0 0]
 | 37 => v = .agg #[.int .u8 1, .string ⟨#[121]⟩, .int .u8 0, .int .i64 0, .string ⟨#[]⟩, .string ⟨#[]⟩, .slice none 0 0]
 | 38 => ArgsT [atomT [120], atomT [121], atomT [121]] v W
 | 39 => OfT (RT.mk 4 zeroT [atomT [120], atomT [121], atomT [121]]) v W
 | 40 => EntT (RT.mk 4 zeroT [atomT [120], atomT [121], atomT [121]]) (48, 48, 48, 49) v W
 | 41 => v = .agg #[.int .u8 1, .string ⟨#[121]⟩, .int .u8 0, .int .i64 0, .string ⟨#[]⟩, .string ⟨#[]⟩, .slice none 0 0]
 | 42 => v = .agg #[.int .u8 1, .string ⟨#[121]⟩, .int .u8 0, .int .i64 0, .string ⟨#[]⟩, .string ⟨#[]⟩, .slice none 0 0]
 | 43 => v = .agg #[.int .u8 1, .string ⟨#[120]⟩, .int .u8 0, .int .i64 0, .string ⟨#[]⟩, .string ⟨#[]⟩, .slice none 0 0]
 | 44 => ArgsT [atomT [121], atomT [121], atomT [120]] v W
 | 45 => OfT (RT.mk 4 zeroT [atomT [121], atomT [121], atomT [120]]) v W
 | 46 => EntT (RT.mk 4 zeroT [atomT [121], atomT [121], atomT [120]]) (48, 49, 49, 49) v W
 | 47 => v = .agg #[.int .u8 1, .string ⟨#[120]⟩, .int .u8 0, .int .i64 0, .string ⟨#[]⟩, .string ⟨#[]⟩, .slice none 0 0]
 | 48 => v = .agg #[.int .u8 1, .string ⟨#[121]⟩, .int .u8 0, .int .i64 0, .string ⟨#[]⟩, .string ⟨#[]⟩, .slice none 0 0]
 | 49 => v = .agg #[.int .u8 1, .string ⟨#[120]⟩, .int .u8 0, .int .i64 0, .string ⟨#[]⟩, .string ⟨#[]⟩, .slice none 0 0]
 | 50 => ArgsT [atomT [120], atomT [121], atomT [120]] v W
 | 51 => OfT (RT.mk 5 zeroT [atomT [120], atomT [121], atomT [120]]) v W
 | 52 => EntT (RT.mk 5 zeroT [atomT [120], atomT [121], atomT [120]]) (48, 49, 48, 49) v W
 | 53 => v = .agg #[.int .u8 1, .string ⟨#[121]⟩, .int .u8 0, .int .i64 0, .string ⟨#[]⟩, .string ⟨#[]⟩, .slice none 0 0]
 | 54 => v = .agg #[.int .u8 1, .string ⟨#[121]⟩, .int .u8 0, .int .i64 0, .string ⟨#[]⟩, .string ⟨#[]⟩, .slice none 0 0]
 | 55 => v = .agg #[.int .u8 1, .string ⟨#[120]⟩, .int .u8 0, .int .i64 0, .string ⟨#[]⟩, .string ⟨#[]⟩, .slice none 0 0]
 | 56 => ArgsT [atomT [121], atomT [121], atomT [120]] v W
 | 57 => OfT (RT.mk 5 zeroT [atomT [121], atomT [121], atomT [120]]) v W
 | 58 => EntT (RT.mk 5 zeroT [atomT [121], atomT [121], atomT [120]]) (48, 48, 48, 49) v W
 | 59 => v = .agg #[.int .u8 1, .string ⟨#[120]⟩, .int .u8 0, .int .i64 0, .string ⟨#[]⟩, .string ⟨#[]⟩, .slice none 0 0]
 | 60 => v = .agg #[.int .u8 1, .string ⟨#[120]⟩, .int .u8 0, .int .i64 0, .string ⟨#[]⟩, .string ⟨#[]⟩, .slice none 0 0]
 | 61 => v = .agg #[.int .u8 1, .string ⟨#[120]⟩, .int .u8 0, .int .i64 0, .string ⟨#[]⟩, .string ⟨#[]⟩, .slice none 0 0]
 | 62 => ArgsT [atomT [120], atomT [120], atomT [120]] v W
 | 63 => OfT (RT.mk 6 zeroT [atomT [120], atomT [120], atomT [120]]) v W
 | 64 => EntT (RT.mk 6 zeroT [atomT [120], atomT [120], atomT [120]]) (48, 49, 48, 49) v W
 | 65 => v = .agg #[.int .u8 1, .string ⟨#[120]⟩, .int .u8 0, .int .i64 0, .string ⟨#[]⟩, .string ⟨#[]⟩, .slice none 0 0]
 | 66 => v = .agg #[.int .u8 1, .string ⟨#[121]⟩, .int .u8 0, .int .i64 0, .string ⟨#[]⟩, .string ⟨#[]⟩, .slice none 0 0]
 | 67 => ArgsT [atomT [120], atomT [121]] v W
 | 68 => OfT (RT.mk 3 zeroT [atomT [120], atomT [121]]) v W
 | 69 => v = .agg #[.int .u8 1, .string ⟨#[122]⟩, .int .u8 0, .int .i64 0, .string ⟨#[]⟩, .string ⟨#[]⟩, .slice none 0 0]
 | 70 => ArgsT [(RT.mk 3 zeroT [atomT [120], atomT [121]]), atomT [122]] v W
 | 71 => OfT (RT.mk 6 zeroT [(RT.mk 3 zeroT [atomT [120], atomT [121]]), atomT [122]]) v W
 | 72 => EntT (RT.mk 6 zeroT [(RT.mk 3 zeroT [atomT [120], atomT [121]]), atomT [122]]) (48, 48, 49, 49) v W
 | 73 => v = .agg #[.int .u8 1, .string ⟨#[120]⟩, .int .u8 0, .int .i64 0, .string ⟨#[]⟩, .string ⟨#[]⟩, .slice none 0 0]
 | 74 => v = .agg #[.int .u8 1, .string ⟨#[120]⟩, .int .u8 0, .int .i64 0, .string ⟨#[]⟩, .string ⟨#[]⟩, .slice none 0 0]
 | 75 => v = .agg #[.int .u8 1, .string ⟨#[121]⟩, .int .u8 0, .int .i64 0, .string ⟨#[]⟩, .string ⟨#[]⟩, .slice none 0 0]
 | 76 => ArgsT [atomT [120], atomT [121]] v W
 | 77 => OfT (RT.mk 2 zeroT [atomT [120], atomT [121]]) v W
 | 78 => ArgsT [atomT [120], (RT.mk 2 zeroT [atomT [120], atomT [121]])] v W
 | 79 => OfT (RT.mk 4 zeroT [atomT [120], (RT.mk 2 zeroT [atomT [120], atomT [121]])]) v W
 | 80 => EntT (RT.mk 4 zeroT [atomT [120], (RT.mk 2 zeroT [atomT [120], atomT [121]])]) (49, 49, 49, 49) v W
 | 81 => v = .agg #[.int .u8 1, .string ⟨#[110, 111, 110, 101]⟩, .int .u8 0, .int .i64 0, .string ⟨#[]⟩, .string ⟨#[]⟩, .slice none 0 0]
 | 82 => EntT (atomT [110, 111, 110, 101]) (48, 48, 48, 48) v W
 | 83 => v = .agg #[.int .u8 1, .string ⟨#[120]⟩, .int .u8 0, .int .i64 0, .string ⟨#[]⟩, .string ⟨#[]⟩, .slice none 0 0]
 | 84 => v = .agg #[.int .u8 1, .string ⟨#[110, 111, 110, 101]⟩, .int .u8 0, .int .i64 0, .string ⟨#[]⟩, .string ⟨#[]⟩, .slice none 0 0]
 | 85 => ArgsT [atomT [120], atomT [110, 111, 110, 101]] v W
 | 86 => OfT (RT.mk 5 zeroT [atomT [120], atomT [110, 111, 110, 101]]) v W
 | 87 => EntT (RT.mk 5 zeroT [atomT [120], atomT [110, 111, 110, 101]]) (48, 49, 48, 49) v W
 | 88 => v = .agg #[.int .u8 0, .string ⟨#[]⟩, .int .u8 0, .int .i64 0, .string ⟨#[]⟩, .string ⟨#[]⟩, .slice none 0 0]
 | 89 => EntT (RT.mk 0 zeroT []) (48, 48, 48, 48) v W
 | 90 => v = .agg #[.int .u8 1, .string ⟨#[120]⟩, .int .u8 0, .int .i64 0, .string ⟨#[]⟩, .string ⟨#[]⟩, .slice none 0 0]
 | 91 => ArgsT [atomT [120]] v W
 | 92 => OfT (RT.mk 2 zeroT [atomT [120]]) v W
 | 93 => EntT (RT.mk 2 zeroT [atomT [120]]) (48, 48, 48, 48) v W
 | 94 => OfT (RT.mk 2 zeroT []) v W
 | 95 => EntT (RT.mk 2 zeroT []) (48, 48, 48, 48) v W
 | 96 => v = .agg #[.int .u8 1, .string ⟨#[120]⟩, .int .u8 0, .int .i64 0, .string ⟨#[]⟩, .string ⟨#[]⟩, .slice none 0 0]
 | 97 => v = .agg #[.int .u8 1, .string ⟨#[110, 111, 110, 101]⟩, .int .u8 0, .int .i64 0, .string ⟨#[]⟩, .string ⟨#[]⟩, .slice none 0 0]
 | 98 => v = .agg #[.int .u8 1, .string ⟨#[120]⟩, .int .u8 0, .int .i64 0, .string ⟨#[]⟩, .string ⟨#[]⟩, .slice none 0 0]
 | 99 => v = .agg #[.int .u8 1, .string ⟨#[120]⟩, .int .u8 0, .int .i64 0, .string ⟨#[]⟩, .string ⟨#[]⟩, .slice none 0 0]
 | 100 => ArgsT [atomT [120], atomT [110, 111, 110, 101], atomT [120], atomT [120]] v W
 | 101 => OfT (RT.mk 4 zeroT [atomT [120], atomT [110, 111, 110, 101], atomT [120], atomT [120]]) v W
 | 102 => EntT (RT.mk 4 zeroT [atomT [120], atomT [110, 111, 110, 101], atomT [120], atomT [120]]) (48, 48, 48, 48) v W
 | 103 => v = .agg #[.int .u8 9, .string ⟨#[]⟩, .int .u8 0, .int .i64 0, .string ⟨#[]⟩, .string ⟨#[]⟩, .slice none 0 0]
 | 104 => EntT (RT.mk 9 zeroT []) (48, 48, 48, 48) v W
 | 105 => TabT v W
 | 106 => v = .int .i64 21
 | 107 => v = .int .i64 0
 | _ => False
theorem tn10_mono (z : Nat) : ∀ i v w w', tn10 z i v w → Below w.heap.size w w' → tn10 z i v w' := by
 intro i v w w' h hb
 match i, h with
 | 0, h => exact h
 | 1, h => exact h
 | 2, h => exact h.then hb
 | 3, h => exact h.then hb
 | 4, h => exact h.then hb
 | 5, h => exact h
 | 6, h => exact h
 | 7, h => exact h.then hb
 | 8, h => exact h.then hb
 | 9, h => exact h.then hb
 | 10, h => exact h
 | 11, h => exact h
 | 12, h => exact h.then hb
 | 13, h => exact h.then hb
 | 14, h => exact h.then hb
 | 15, h => exact h
 | 16, h => exact h
 | 17, h => exact h.then hb
 | 18, h => exact h.then hb
 | 19, h => exact h.then hb
 | 20, h => exact h
 | 21, h => exact h
 | 22, h => exact h.then hb
 | 23, h => exact h.then hb
 | 24, h => exact h.then hb
 | 25, h => exact h
 | 26, h => exact h
 | 27, h => exact h.then hb
 | 28, h => exact h.then hb
 | 29, h => exact h.then hb
 | 30, h => exact h
 | 31, h => exact h
 | 32, h => exact h.then hb
 | 33, h => exact h.then hb
 | 34, h => exact h.then hb
 | 35, h => exact h
 | 36, h => exact h
 | 37, h => exact h
 | 38, h => exact h.then hb
 | 39, h => exact h.then hb
 | 40, h => exact h.then hb
 | 41, h => exact h
 | 42, h => exact h
 | 43, h => exact h
 | 44, h => exact h.then hb
 | 45, h => exact h.then hb
 | 46, h => exact h.then hb
 | 47, h => exact h
 | 48, h => exact h
 | 49, h => exact h
 | 50, h => exact h.then hb
 | 51, h => exact h.then hb
 | 52, h => exact h.then hb
 | 53, h => exact h
 | 54, h => exact h
 | 55, h => exact h
 | 56, h => exact h.then hb
 | 57, h => exact h.then hb
 | 58, h => exact h.then hb
 | 59, h => exact h
 | 60, h => exact h
 | 61, h => exact h
 | 62, h => exact h.then hb
 | 63, h => exact h.then hb
 | 64, h => exact h.then hb
 | 65, h => exact h
 | 66, h => exact h
 | 67, h => exact h.then hb
 | 68, h => exact h.then hb
 | 69, h => exact h
 | 70, h => exact h.then hb
 | 71, h => exact h.then hb
 | 72, h => exact h.then hb
 | 73, h => exact h
 | 74, h => exact h
 | 75, h => exact h
 | 76, h => exact h.then hb
 | 77, h => exact h.then hb
 | 78, h => exact h.then hb
 | 79, h => exact h.then hb
 | 80, h => exact h.then hb
 | 81, h => exact h
 | 82, h => exact h.then hb
 | 83, h => exact h
 | 84, h => exact h
 | 85, h => exact h.then hb
 | 86, h => exact h.then hb
 | 87, h => exact h.then hb
 | 88, h => exact h
 | 89, h => exact h.then hb
 | 90, h => exact h
 | 91, h => exact h.then hb
 | 92, h => exact h.then hb
 | 93, h => exact h.then hb
 | 94, h => exact h.then hb
 | 95, h => exact h.then hb
 | 96, h => exact h
 | 97, h => exact h
 | 98, h => exact h
 | 99, h => exact h
 | 100, h => exact h.then hb
 | 101, h => exact h.then hb
 | 102, h => exact h.then hb
 | 103, h => exact h
 | 104, h => exact h.then hb
 | 105, h => exact h.then hb
 | 106, h => exact h
 | 107, h => exact h
 | (k + 108), h => exact h.elim
def tn16 (T st cb i9 sn : Nat) (SA : Option Addr) (qr : RV) (q0 q1 q2 q3 qq : UInt8) (r : Bool) (i : Nat) (v : Value) (W : World) : Prop := match i with
 | 0 => v = .pointer (some ⟨T, 0, none⟩)
 | 1 => v = .slice (some ⟨st, 0, none⟩) 4 4
 | 2 => v = .int .i64 (i9 : Int)
 | 3 => v = .pointer (some ⟨st, i9, none⟩)
 | 4 => v = .slice SA sn sn
 | 5 => v = .pointer (some ⟨cb, 0, none⟩)
 | 6 => v = .agg #[.int .u8 qr.kind, .string (bs qr.dep.name), .int .u8 qr.dep.op, .int .i64 qr.dep.evr.epoch, .string (bs qr.dep.evr.ver), .string (bs qr.dep.evr.rel), .slice qr.addr qr.args.length qr.cap]
 | 7 => v = .bool r
 | 8 => v = .pointer (some ⟨cb, 7, none⟩)
 | 9 => v = .string ⟨#[q0, q1, q2, q3]⟩
 | 10 => v = .int .i64 (i9 : Int)
 | 11 => v = .int .u8 (qq.toNat : Int)
 | 12 => v = .bool r
 | 13 => v = .bool false
 | _ => False
theorem tn16_mono (T st cb i9 sn : Nat) (SA : Option Addr) (qr : RV) (q0 q1 q2 q3 qq : UInt8) (r : Bool) : ∀ i v w w', tn16 T st cb i9 sn SA qr q0 q1 q2 q3 qq r i v w → Below w.heap.size w w' → tn16 T st cb i9 sn SA qr q0 q1 q2 q3 qq r i v w' := by
 intro i v w w' h hb
 match i, h with
 | 0, h => exact h
 | 1, h => exact h
 | 2, h => exact h
 | 3, h => exact h
 | 4, h => exact h
 | 5, h => exact h
 | 6, h => exact h
 | 7, h => exact h
 | 8, h => exact h
 | 9, h => exact h
 | 10, h => exact h
 | 11, h => exact h
 | 12, h => exact h
 | 13, h => exact h
 | (k + 14), h => exact h.elim
set_option maxRecDepth 100000 in
set_option maxHeartbeats 16000000 in
theorem truthNames_row (w : World) (hI : WhIn w) : Calls Tryz.prog 10 #[] w fun e w' => e = .returned (.bool true) ∧ Below w.heap.size w w' := by
 have TW := Lib.hid (fun W (hb : Below w.heap.size w W) => two_any W (hI.below hb).1)
 have AW := Lib.hid (fun W (hb : Below w.heap.size w W) => tawake_any W (hI.below hb))
 have HI := Lib.hid hI
 have B0 := Lib.hid (Below.refl w.heap.size w)
 clear hI
 go_enter Tryz.func10, Tryz.ntmps10
 go_wp2_with fail
 go_at_call 50
 refine (truthnew_nil _).mono ?_
 rintro en w1 ⟨rfl, hb⟩
 have B1 := Lib.hid (B0.out.trans (hb.mono B0.out.size))
 clear hb
 go_wp2_with fail
 go_at_call 58
 refine (atom14_any _ _).mono ?_
 rintro en w2 ⟨rfl, hb⟩
 have B2 := Lib.hid ((B1.out.alloc B1.out.size (.cells #[.int .i64 0] 3)).trans (hb.mono (B1.out.alloc B1.out.size (.cells #[.int .i64 0] 3)).size))
 clear hb
 go_wp2_with fail
 go_at_call 40
 refine (tsat_nil _ _ _ (atomR [97]) _).mono ?_
 rintro en w3 ⟨rfl, hb⟩
 have B3 := Lib.hid (B2.out.trans (hb.mono B2.out.size))
 clear hb
 go_wp2_with fail
 go_at_call 58
 refine (atom14_any _ _).mono ?_
 rintro en w4 ⟨rfl, hb⟩
 have B4 := Lib.hid (B3.out.trans (hb.mono B3.out.size))
 clear hb
 go_wp2_with fail
 go_at_call 53
 refine (twithout_nil none 0 [] (Rd.nil_ (Nat.zero_le _)) (by simp) _ (atomR [97])).mono ?_
 rintro en w5 ⟨rfl, hb⟩
 have B5 := Lib.hid (B4.out.trans (hb.mono B4.out.size))
 clear hb
 go_wp2_with fail
 go_at_call 58
 refine (atom14_any _ _).mono ?_
 rintro en w6 ⟨rfl, hb⟩
 have B6 := Lib.hid (B5.out.trans (hb.mono B5.out.size))
 clear hb
 go_wp2_with fail
 go_at_call 43
 refine (talone_nil _ (atomR [97]) _).mono ?_
 rintro en w7 ⟨rfl, hb⟩
 have B7 := Lib.hid (B6.out.trans (hb.mono B6.out.size))
 clear hb
 go_wp2_with fail
 go_at_call 58
 refine (atom14_any _ _).mono ?_
 rintro en w8 ⟨rfl, hb⟩
 have B8 := Lib.hid ((B7.out.alloc B7.out.size (.cells #[.int .i64 0] 3)).trans (hb.mono (B7.out.alloc B7.out.size (.cells #[.int .i64 0] 3)).size))
 clear hb
 go_wp2_with fail
 go_at_call 41
 refine (twho_nil _ _ _ (atomR [97]) _).mono ?_
 rintro en w9 ⟨rfl, hb⟩
 have B9 := Lib.hid (B8.out.trans (hb.mono B8.out.size))
 clear hb
 go_wp2_with fail
 go_at_call 59
 refine (TW.out _ B9.out).mono ?_
 rintro en w10 ⟨T, X, L2, rfl, ht, hp, hb⟩
 have B10 := Lib.hid (B9.out.trans (hb.mono B9.out.size))
 clear hb
 have HP := Lib.hid (show pvL L2 = PV from funext fun n => funext fun d => hp n d)
 have HT := Lib.hid ht
 clear ht hp TW
 go_wp2_with fail
 obtain ⟨v1, e1⟩ : ∃ W, W = w10.alloc (.cells #[.int .i64 0] 3) := ⟨_, rfl⟩
 rw [← e1]
 have b1 : Below w10.heap.size w10 v1 := by rw [e1]; exact (Below.refl _ _).alloc (Nat.le_refl _) _
 have s1 : v1.heap.size = w10.heap.size + 1 := by rw [e1, World.size_alloc]
 obtain ⟨v2, e2⟩ : ∃ W, W = v1.alloc (.cells #[.int .i64 1] 3) := ⟨_, rfl⟩
 rw [← e2]
 have b2 : Below v1.heap.size v1 v2 := by rw [e2]; exact (Below.refl _ _).alloc (Nat.le_refl _) _
 have s2 : v2.heap.size = w10.heap.size + 1 + 1 := by rw [e2, World.size_alloc, s1]
 obtain ⟨v3, e3⟩ : ∃ W, W = v2.alloc (.cells #[.int .i64 1, .int .i64 0] 3) := ⟨_, rfl⟩
 rw [← e3]
 have b3 : Below v2.heap.size v2 v3 := by rw [e3]; exact (Below.refl _ _).alloc (Nat.le_refl _) _
 have s3 : v3.heap.size = w10.heap.size + 1 + 1 + 1 := by rw [e3, World.size_alloc, s2]
 obtain ⟨v4, e4⟩ : ∃ W, W = v3.alloc (.cells #[.slice none 0 0, .slice (some ⟨w10.heap.size, 0, none⟩) 1 1, .slice (some ⟨w10.heap.size + 1, 0, none⟩) 1 1, .slice (some ⟨w10.heap.size + 1 + 1, 0, none⟩) 2 2] 42) := ⟨_, rfl⟩
 rw [← e4]
 have b4 : Below v3.heap.size v3 v4 := by rw [e4]; exact (Below.refl _ _).alloc (Nat.le_refl _) _
 have s4 : v4.heap.size = w10.heap.size + 1 + 1 + 1 + 1 := by rw [e4, World.size_alloc, s3]
 have r1 : Rd encI 1 v1.heap.size (some ⟨w10.heap.size, 0, none⟩) 1 [0] v1 := by have q := rd_litT (enc := encI) (size := 1) (fun _ => rfl) [0] w10 3 (by simp); rw [e1]; exact q
 have r2 : Rd encI 1 v2.heap.size (some ⟨w10.heap.size + 1, 0, none⟩) 1 [1] v2 := by have q := rd_litT (enc := encI) (size := 1) (fun _ => rfl) [1] v1 3 (by simp); rw [s1] at q; rw [e2]; exact q
 have r3 : Rd encI 1 v3.heap.size (some ⟨w10.heap.size + 1 + 1, 0, none⟩) 2 [1, 0] v3 := by have q := rd_litT (enc := encI) (size := 1) (fun _ => rfl) [1, 0] v2 3 (by simp); rw [s2] at q; rw [e3]; exact q
 have sn4 : StN (w10.heap.size + 1 + 1 + 1) (w10.heap.size) (w10.heap.size + 1) (w10.heap.size + 1 + 1) v4 := by
  refine ⟨by rw [s4]; omega, ?_, ?_, ?_, ?_, ((((r1.below b2).more b2.size).below b3).more b3.size).below b4 |>.more b4.size, ((r2.below b3).more b3.size).below b4 |>.more b4.size, (r3.below b4).more b4.size⟩
  all_goals rw [e4, ← s3]; simp [go_sem]
 have b14 : Below w10.heap.size w10 v4 := b1.trans ((b2.trans ((b3.trans (b4.mono b3.size)).mono b2.size)).mono b1.size)
 have SN := Lib.hid sn4
 have B11 := Lib.hid (B10.out.trans (b14.mono B10.out.size))
 have T4 := Lib.hid (HT.out.then b14)
 clear sn4 b14 HT r1 r2 r3 b1 b2 b3 b4 e1 e2 e3 e4 s1 s2 s3 s4
 generalize w10.heap.size = h0 at *
 go_at_call 58
 refine (atom14_any _ _).mono ?_
 rintro en w12 ⟨rfl, hb⟩
 have B12 := Lib.hid (B11.out.trans (hb.mono B11.out.size))
 have SN2 := Lib.hid (SN.out.then hb)
 have T5 := Lib.hid (T4.out.then hb)
 clear hb SN T4
 go_wp2_with fail
 go_at_call 58
 refine (atom14_any _ _).mono ?_
 rintro en w13 ⟨rfl, hb⟩
 have B13 := Lib.hid (B12.out.trans (hb.mono B12.out.size))
 have SN3 := Lib.hid (SN2.out.then hb)
 have T6 := Lib.hid (T5.out.then hb)
 clear hb SN2 T5
 go_wp2_with fail
 obtain ⟨u1, e1⟩ : ∃ W, W = w13.alloc (.cells #[.int .u8 1, .string ⟨#[120]⟩, .int .u8 0, .int .i64 0, .string ⟨#[]⟩, .string ⟨#[]⟩, .slice none 0 0] 39) := ⟨_, rfl⟩
 rw [← e1]
 have b1 : Below w13.heap.size w13 u1 := by rw [e1]; exact (Below.refl _ _).alloc (Nat.le_refl _) _
 have s1 : u1.heap.size = w13.heap.size + 1 := by rw [e1, World.size_alloc]
 obtain ⟨u2, e2⟩ : ∃ W, W = u1.alloc (.cells #[.int .u8 1, .string ⟨#[121]⟩, .int .u8 0, .int .i64 0, .string ⟨#[]⟩, .string ⟨#[]⟩, .slice none 0 0] 39) := ⟨_, rfl⟩
 rw [← e2]
 have b2 : Below u1.heap.size u1 u2 := by rw [e2]; exact (Below.refl _ _).alloc (Nat.le_refl _) _
 have ax1 : AtX w13.heap.size ⟨#[120]⟩ u1 := by rw [e1]; exact AtX.new _ _
 have ay2 : AtX (w13.heap.size + 1) ⟨#[121]⟩ u2 := by have q := AtX.new ⟨#[121]⟩ u1; rw [s1] at q; rw [e2]; exact q
 have b12 := b1.trans (b2.mono b1.size)
 have bw := B13.out.trans (b12.mono B13.out.size)
 have NM := Lib.hid (show Nm T X w13.heap.size (w13.heap.size + 1) (h0 + 1 + 1 + 1) h0 (h0 + 1) (h0 + 1 + 1) L2 [] w u2 from ⟨T6.out.then b12, HI.out.below bw, bw, ax1.then b2, ay2, SN3.out.then b12, fun t ht => by cases ht⟩)
 clear ax1 ay2 b12 bw b1 b2 e1 e2 s1 SN3 T6 B13 HI
 generalize w13.heap.size = bx at *
 simp only [List.append_eq, List.cons_append, List.nil_append]
 refine wp_region_tail (PP := tn10 0) 108 rfl (by kernel_rfl) (by kernel_rfl) (by decide) (by decide) (tn10_mono 0) (fun _ => undef) (by simp [fillV, put_someT, setIfInBounds_toArray, set_cons_zero, set_cons_succ]) ?_ ?_
 ·intro i o vs W hi ho he hBW K hK
  simp only [take_succ_cons, take_zero, fillV, put_someT, setIfInBounds_toArray, set_cons_zero, set_cons_succ] at hK ⊢
  have NW := Lib.hid (NM.out.then hBW)
  clear hBW
  obtain hq | hq | hq | hq | hq | hq | hq | hq | hq := (show (0 ≤ i ∧ i < 12) ∨ (12 ≤ i ∧ i < 24) ∨ (24 ≤ i ∧ i < 36) ∨ (36 ≤ i ∧ i < 48) ∨ (48 ≤ i ∧ i < 60) ∨ (60 ≤ i ∧ i < 72) ∨ (72 ≤ i ∧ i < 84) ∨ (84 ≤ i ∧ i < 96) ∨ (96 ≤ i ∧ i < 108) by exact (by have : i < 108 := hi; omega))
  ·obtain rfl | rfl | rfl | rfl | rfl | rfl | rfl | rfl | rfl | rfl | rfl | rfl := (show i = 0 ∨ i = 1 ∨ i = 2 ∨ i = 3 ∨ i = 4 ∨ i = 5 ∨ i = 6 ∨ i = 7 ∨ i = 8 ∨ i = 9 ∨ i = 10 ∨ i = 11 by exact (by omega))
   ·clear hq
    simp only [getElem?_toArray, getElem?_cons_zero, getElem?_cons_succ, Option.some.injEq] at ho
    subst ho
    rw [if_pos (by rfl)]
    simp only [put_someT, setIfInBounds_toArray, set_cons_zero, set_cons_succ] at hK
    have HK := Lib.hid hK
    clear hK he
    obtain ⟨_, c0, c1, c2, c3, c4, c5, c6⟩ := NW.out.x
    go_simp
    exact HK.out _ _ rfl (Below.refl _ _)
   ·clear hq
    simp only [getElem?_toArray, getElem?_cons_zero, getElem?_cons_succ, Option.some.injEq] at ho
    subst ho
    rw [if_pos (by rfl)]
    simp only [put_someT, setIfInBounds_toArray, set_cons_zero, set_cons_succ] at hK
    have HK := Lib.hid hK
    clear hK he
    obtain ⟨_, c0, c1, c2, c3, c4, c5, c6⟩ := NW.out.y
    go_simp
    exact HK.out _ _ rfl (Below.refl _ _)
   ·clear hq
    simp only [getElem?_toArray, getElem?_cons_zero, getElem?_cons_succ, Option.some.injEq] at ho
    subst ho
    have e0 : vs 0 = _ := he ⟨0, .data⟩ (by simp) rfl
    have e1 : vs 1 = _ := he ⟨1, .data⟩ (by simp) rfl
    rw [e0, e1] at hK ⊢
    rw [if_pos (by rfl)]
    simp only [put_someT, setIfInBounds_toArray, set_cons_zero, set_cons_succ] at hK
    have HK := Lib.hid hK
    clear hK he
    go_simp
    exact HK.out _ _ (ArgsT.made (D := [atomR [120], atomR [121]]) (by simp only [List.map_cons, List.map_nil, atomR_tree]) rfl (by simp) (fun t ht => by simp only [List.mem_cons, List.not_mem_nil, or_false] at ht; rcases ht with e | e <;> rw [e] <;> first | exact atomR_rtree _ _ _ (by decide))) ((Below.refl _ _).alloc (Nat.le_refl _) _)
   ·clear hq
    simp only [getElem?_toArray, getElem?_cons_zero, getElem?_cons_succ, Option.some.injEq] at ho
    subst ho
    obtain ⟨D9, g9, e9, m9, t9⟩ := he ⟨2, .data⟩ (by simp) rfl
    rw [e9] at hK ⊢
    rw [if_pos (by rfl)]
    simp only [put_someT, setIfInBounds_toArray, set_cons_zero, set_cons_succ] at hK
    have HK := Lib.hid hK
    clear hK he
    go_simp
    go_at_call 44
    refine (of14_any _ _ _ _ _).mono ?_
    rintro en w9 ⟨rfl, h⟩
    go_simp
    exact HK.out _ _ (OfT.made m9 (((t9 _).keeps h).more h.size)) h
   ·clear hq
    simp only [getElem?_toArray, getElem?_cons_zero, getElem?_cons_succ, Option.some.injEq] at ho
    subst ho
    obtain ⟨R9, e9, h9, t9⟩ := he ⟨3, .data⟩ (by simp) rfl
    unfold RV.val at e9
    rw [e9] at hK ⊢
    rw [if_pos (by rfl)]
    simp only [put_someT, setIfInBounds_toArray, set_cons_zero, set_cons_succ] at hK
    have HK := Lib.hid hK
    clear hK he
    go_simp
    exact HK.out _ _ ⟨R9, rfl, h9, t9⟩ (Below.refl _ _)
   ·clear hq
    simp only [getElem?_toArray, getElem?_cons_zero, getElem?_cons_succ, Option.some.injEq] at ho
    subst ho
    rw [if_pos (by rfl)]
    simp only [put_someT, setIfInBounds_toArray, set_cons_zero, set_cons_succ] at hK
    have HK := Lib.hid hK
    clear hK he
    obtain ⟨_, c0, c1, c2, c3, c4, c5, c6⟩ := NW.out.x
    go_simp
    exact HK.out _ _ rfl (Below.refl _ _)
   ·clear hq
    simp only [getElem?_toArray, getElem?_cons_zero, getElem?_cons_succ, Option.some.injEq] at ho
    subst ho
    rw [if_pos (by rfl)]
    simp only [put_someT, setIfInBounds_toArray, set_cons_zero, set_cons_succ] at hK
    have HK := Lib.hid hK
    clear hK he
    obtain ⟨_, c0, c1, c2, c3, c4, c5, c6⟩ := NW.out.y
    go_simp
    exact HK.out _ _ rfl (Below.refl _ _)
   ·clear hq
    simp only [getElem?_toArray, getElem?_cons_zero, getElem?_cons_succ, Option.some.injEq] at ho
    subst ho
    have e5 : vs 5 = _ := he ⟨5, .data⟩ (by simp) rfl
    have e6 : vs 6 = _ := he ⟨6, .data⟩ (by simp) rfl
    rw [e5, e6] at hK ⊢
    rw [if_pos (by rfl)]
    simp only [put_someT, setIfInBounds_toArray, set_cons_zero, set_cons_succ] at hK
    have HK := Lib.hid hK
    clear hK he
    go_simp
    exact HK.out _ _ (ArgsT.made (D := [atomR [120], atomR [121]]) (by simp only [List.map_cons, List.map_nil, atomR_tree]) rfl (by simp) (fun t ht => by simp only [List.mem_cons, List.not_mem_nil, or_false] at ht; rcases ht with e | e <;> rw [e] <;> first | exact atomR_rtree _ _ _ (by decide))) ((Below.refl _ _).alloc (Nat.le_refl _) _)
   ·clear hq
    simp only [getElem?_toArray, getElem?_cons_zero, getElem?_cons_succ, Option.some.injEq] at ho
    subst ho
    obtain ⟨D9, g9, e9, m9, t9⟩ := he ⟨7, .data⟩ (by simp) rfl
    rw [e9] at hK ⊢
    rw [if_pos (by rfl)]
    simp only [put_someT, setIfInBounds_toArray, set_cons_zero, set_cons_succ] at hK
    have HK := Lib.hid hK
    clear hK he
    go_simp
    go_at_call 44
    refine (of14_any _ _ _ _ _).mono ?_
    rintro en w9 ⟨rfl, h⟩
    go_simp
    exact HK.out _ _ (OfT.made m9 (((t9 _).keeps h).more h.size)) h
   ·clear hq
    simp only [getElem?_toArray, getElem?_cons_zero, getElem?_cons_succ, Option.some.injEq] at ho
    subst ho
    obtain ⟨R9, e9, h9, t9⟩ := he ⟨8, .data⟩ (by simp) rfl
    unfold RV.val at e9
    rw [e9] at hK ⊢
    rw [if_pos (by rfl)]
    simp only [put_someT, setIfInBounds_toArray, set_cons_zero, set_cons_succ] at hK
    have HK := Lib.hid hK
    clear hK he
    go_simp
    exact HK.out _ _ ⟨R9, rfl, h9, t9⟩ (Below.refl _ _)
   ·clear hq
    simp only [getElem?_toArray, getElem?_cons_zero, getElem?_cons_succ, Option.some.injEq] at ho
    subst ho
    rw [if_pos (by rfl)]
    simp only [put_someT, setIfInBounds_toArray, set_cons_zero, set_cons_succ] at hK
    have HK := Lib.hid hK
    clear hK he
    obtain ⟨_, c0, c1, c2, c3, c4, c5, c6⟩ := NW.out.x
    go_simp
    exact HK.out _ _ rfl (Below.refl _ _)
   ·clear hq
    simp only [getElem?_toArray, getElem?_cons_zero, getElem?_cons_succ, Option.some.injEq] at ho
    subst ho
    rw [if_pos (by rfl)]
    simp only [put_someT, setIfInBounds_toArray, set_cons_zero, set_cons_succ] at hK
    have HK := Lib.hid hK
    clear hK he
    obtain ⟨_, c0, c1, c2, c3, c4, c5, c6⟩ := NW.out.y
    go_simp
    exact HK.out _ _ rfl (Below.refl _ _)
  ·obtain rfl | rfl | rfl | rfl | rfl | rfl | rfl | rfl | rfl | rfl | rfl | rfl := (show i = 12 ∨ i = 13 ∨ i = 14 ∨ i = 15 ∨ i = 16 ∨ i = 17 ∨ i = 18 ∨ i = 19 ∨ i = 20 ∨ i = 21 ∨ i = 22 ∨ i = 23 by exact (by omega))
   ·clear hq
    simp only [getElem?_toArray, getElem?_cons_zero, getElem?_cons_succ, Option.some.injEq] at ho
    subst ho
    have e10 : vs 10 = _ := he ⟨10, .data⟩ (by simp) rfl
    have e11 : vs 11 = _ := he ⟨11, .data⟩ (by simp) rfl
    rw [e10, e11] at hK ⊢
    rw [if_pos (by rfl)]
    simp only [put_someT, setIfInBounds_toArray, set_cons_zero, set_cons_succ] at hK
    have HK := Lib.hid hK
    clear hK he
    go_simp
    exact HK.out _ _ (ArgsT.made (D := [atomR [120], atomR [121]]) (by simp only [List.map_cons, List.map_nil, atomR_tree]) rfl (by simp) (fun t ht => by simp only [List.mem_cons, List.not_mem_nil, or_false] at ht; rcases ht with e | e <;> rw [e] <;> first | exact atomR_rtree _ _ _ (by decide))) ((Below.refl _ _).alloc (Nat.le_refl _) _)
   ·clear hq
    simp only [getElem?_toArray, getElem?_cons_zero, getElem?_cons_succ, Option.some.injEq] at ho
    subst ho
    obtain ⟨D9, g9, e9, m9, t9⟩ := he ⟨12, .data⟩ (by simp) rfl
    rw [e9] at hK ⊢
    rw [if_pos (by rfl)]
    simp only [put_someT, setIfInBounds_toArray, set_cons_zero, set_cons_succ] at hK
    have HK := Lib.hid hK
    clear hK he
    go_simp
    go_at_call 44
    refine (of14_any _ _ _ _ _).mono ?_
    rintro en w9 ⟨rfl, h⟩
    go_simp
    exact HK.out _ _ (OfT.made m9 (((t9 _).keeps h).more h.size)) h
   ·clear hq
    simp only [getElem?_toArray, getElem?_cons_zero, getElem?_cons_succ, Option.some.injEq] at ho
    subst ho
    obtain ⟨R9, e9, h9, t9⟩ := he ⟨13, .data⟩ (by simp) rfl
    unfold RV.val at e9
    rw [e9] at hK ⊢
    rw [if_pos (by rfl)]
    simp only [put_someT, setIfInBounds_toArray, set_cons_zero, set_cons_succ] at hK
    have HK := Lib.hid hK
    clear hK he
    go_simp
    exact HK.out _ _ ⟨R9, rfl, h9, t9⟩ (Below.refl _ _)
   ·clear hq
    simp only [getElem?_toArray, getElem?_cons_zero, getElem?_cons_succ, Option.some.injEq] at ho
    subst ho
    rw [if_pos (by rfl)]
    simp only [put_someT, setIfInBounds_toArray, set_cons_zero, set_cons_succ] at hK
    have HK := Lib.hid hK
    clear hK he
    obtain ⟨_, c0, c1, c2, c3, c4, c5, c6⟩ := NW.out.x
    go_simp
    exact HK.out _ _ rfl (Below.refl _ _)
   ·clear hq
    simp only [getElem?_toArray, getElem?_cons_zero, getElem?_cons_succ, Option.some.injEq] at ho
    subst ho
    rw [if_pos (by rfl)]
    simp only [put_someT, setIfInBounds_toArray, set_cons_zero, set_cons_succ] at hK
    have HK := Lib.hid hK
    clear hK he
    obtain ⟨_, c0, c1, c2, c3, c4, c5, c6⟩ := NW.out.y
    go_simp
    exact HK.out _ _ rfl (Below.refl _ _)
   ·clear hq
    simp only [getElem?_toArray, getElem?_cons_zero, getElem?_cons_succ, Option.some.injEq] at ho
    subst ho
    have e15 : vs 15 = _ := he ⟨15, .data⟩ (by simp) rfl
    have e16 : vs 16 = _ := he ⟨16, .data⟩ (by simp) rfl
    rw [e15, e16] at hK ⊢
    rw [if_pos (by rfl)]
    simp only [put_someT, setIfInBounds_toArray, set_cons_zero, set_cons_succ] at hK
    have HK := Lib.hid hK
    clear hK he
    go_simp
    exact HK.out _ _ (ArgsT.made (D := [atomR [120], atomR [121]]) (by simp only [List.map_cons, List.map_nil, atomR_tree]) rfl (by simp) (fun t ht => by simp only [List.mem_cons, List.not_mem_nil, or_false] at ht; rcases ht with e | e <;> rw [e] <;> first | exact atomR_rtree _ _ _ (by decide))) ((Below.refl _ _).alloc (Nat.le_refl _) _)
   ·clear hq
    simp only [getElem?_toArray, getElem?_cons_zero, getElem?_cons_succ, Option.some.injEq] at ho
    subst ho
    obtain ⟨D9, g9, e9, m9, t9⟩ := he ⟨17, .data⟩ (by simp) rfl
    rw [e9] at hK ⊢
    rw [if_pos (by rfl)]
    simp only [put_someT, setIfInBounds_toArray, set_cons_zero, set_cons_succ] at hK
    have HK := Lib.hid hK
    clear hK he
    go_simp
    go_at_call 44
    refine (of14_any _ _ _ _ _).mono ?_
    rintro en w9 ⟨rfl, h⟩
    go_simp
    exact HK.out _ _ (OfT.made m9 (((t9 _).keeps h).more h.size)) h
   ·clear hq
    simp only [getElem?_toArray, getElem?_cons_zero, getElem?_cons_succ, Option.some.injEq] at ho
    subst ho
    obtain ⟨R9, e9, h9, t9⟩ := he ⟨18, .data⟩ (by simp) rfl
    unfold RV.val at e9
    rw [e9] at hK ⊢
    rw [if_pos (by rfl)]
    simp only [put_someT, setIfInBounds_toArray, set_cons_zero, set_cons_succ] at hK
    have HK := Lib.hid hK
    clear hK he
    go_simp
    exact HK.out _ _ ⟨R9, rfl, h9, t9⟩ (Below.refl _ _)
   ·clear hq
    simp only [getElem?_toArray, getElem?_cons_zero, getElem?_cons_succ, Option.some.injEq] at ho
    subst ho
    rw [if_pos (by rfl)]
    simp only [put_someT, setIfInBounds_toArray, set_cons_zero, set_cons_succ] at hK
    have HK := Lib.hid hK
    clear hK he
    obtain ⟨_, c0, c1, c2, c3, c4, c5, c6⟩ := NW.out.x
    go_simp
    exact HK.out _ _ rfl (Below.refl _ _)
   ·clear hq
    simp only [getElem?_toArray, getElem?_cons_zero, getElem?_cons_succ, Option.some.injEq] at ho
    subst ho
    rw [if_pos (by rfl)]
    simp only [put_someT, setIfInBounds_toArray, set_cons_zero, set_cons_succ] at hK
    have HK := Lib.hid hK
    clear hK he
    obtain ⟨_, c0, c1, c2, c3, c4, c5, c6⟩ := NW.out.y
    go_simp
    exact HK.out _ _ rfl (Below.refl _ _)
   ·clear hq
    simp only [getElem?_toArray, getElem?_cons_zero, getElem?_cons_succ, Option.some.injEq] at ho
    subst ho
    have e20 : vs 20 = _ := he ⟨20, .data⟩ (by simp) rfl
    have e21 : vs 21 = _ := he ⟨21, .data⟩ (by simp) rfl
    rw [e20, e21] at hK ⊢
    rw [if_pos (by rfl)]
    simp only [put_someT, setIfInBounds_toArray, set_cons_zero, set_cons_succ] at hK
    have HK := Lib.hid hK
    clear hK he
    go_simp
    exact HK.out _ _ (ArgsT.made (D := [atomR [120], atomR [121]]) (by simp only [List.map_cons, List.map_nil, atomR_tree]) rfl (by simp) (fun t ht => by simp only [List.mem_cons, List.not_mem_nil, or_false] at ht; rcases ht with e | e <;> rw [e] <;> first | exact atomR_rtree _ _ _ (by decide))) ((Below.refl _ _).alloc (Nat.le_refl _) _)
   ·clear hq
    simp only [getElem?_toArray, getElem?_cons_zero, getElem?_cons_succ, Option.some.injEq] at ho
    subst ho
    obtain ⟨D9, g9, e9, m9, t9⟩ := he ⟨22, .data⟩ (by simp) rfl
    rw [e9] at hK ⊢
    rw [if_pos (by rfl)]
    simp only [put_someT, setIfInBounds_toArray, set_cons_zero, set_cons_succ] at hK
    have HK := Lib.hid hK
    clear hK he
    go_simp
    go_at_call 44
    refine (of14_any _ _ _ _ _).mono ?_
    rintro en w9 ⟨rfl, h⟩
    go_simp
    exact HK.out _ _ (OfT.made m9 (((t9 _).keeps h).more h.size)) h
  ·obtain rfl | rfl | rfl | rfl | rfl | rfl | rfl | rfl | rfl | rfl | rfl | rfl := (show i = 24 ∨ i = 25 ∨ i = 26 ∨ i = 27 ∨ i = 28 ∨ i = 29 ∨ i = 30 ∨ i = 31 ∨ i = 32 ∨ i = 33 ∨ i = 34 ∨ i = 35 by exact (by omega))
   ·clear hq
    simp only [getElem?_toArray, getElem?_cons_zero, getElem?_cons_succ, Option.some.injEq] at ho
    subst ho
    obtain ⟨R9, e9, h9, t9⟩ := he ⟨23, .data⟩ (by simp) rfl
    unfold RV.val at e9
    rw [e9] at hK ⊢
    rw [if_pos (by rfl)]
    simp only [put_someT, setIfInBounds_toArray, set_cons_zero, set_cons_succ] at hK
    have HK := Lib.hid hK
    clear hK he
    go_simp
    exact HK.out _ _ ⟨R9, rfl, h9, t9⟩ (Below.refl _ _)
   ·clear hq
    simp only [getElem?_toArray, getElem?_cons_zero, getElem?_cons_succ, Option.some.injEq] at ho
    subst ho
    rw [if_pos (by rfl)]
    simp only [put_someT, setIfInBounds_toArray, set_cons_zero, set_cons_succ] at hK
    have HK := Lib.hid hK
    clear hK he
    obtain ⟨_, c0, c1, c2, c3, c4, c5, c6⟩ := NW.out.x
    go_simp
    exact HK.out _ _ rfl (Below.refl _ _)
   ·clear hq
    simp only [getElem?_toArray, getElem?_cons_zero, getElem?_cons_succ, Option.some.injEq] at ho
    subst ho
    rw [if_pos (by rfl)]
    simp only [put_someT, setIfInBounds_toArray, set_cons_zero, set_cons_succ] at hK
    have HK := Lib.hid hK
    clear hK he
    obtain ⟨_, c0, c1, c2, c3, c4, c5, c6⟩ := NW.out.y
    go_simp
    exact HK.out _ _ rfl (Below.refl _ _)
   ·clear hq
    simp only [getElem?_toArray, getElem?_cons_zero, getElem?_cons_succ, Option.some.injEq] at ho
    subst ho
    have e25 : vs 25 = _ := he ⟨25, .data⟩ (by simp) rfl
    have e26 : vs 26 = _ := he ⟨26, .data⟩ (by simp) rfl
    rw [e25, e26] at hK ⊢
    rw [if_pos (by rfl)]
    simp only [put_someT, setIfInBounds_toArray, set_cons_zero, set_cons_succ] at hK
    have HK := Lib.hid hK
    clear hK he
    go_simp
    exact HK.out _ _ (ArgsT.made (D := [atomR [120], atomR [121]]) (by simp only [List.map_cons, List.map_nil, atomR_tree]) rfl (by simp) (fun t ht => by simp only [List.mem_cons, List.not_mem_nil, or_false] at ht; rcases ht with e | e <;> rw [e] <;> first | exact atomR_rtree _ _ _ (by decide))) ((Below.refl _ _).alloc (Nat.le_refl _) _)
   ·clear hq
    simp only [getElem?_toArray, getElem?_cons_zero, getElem?_cons_succ, Option.some.injEq] at ho
    subst ho
    obtain ⟨D9, g9, e9, m9, t9⟩ := he ⟨27, .data⟩ (by simp) rfl
    rw [e9] at hK ⊢
    rw [if_pos (by rfl)]
    simp only [put_someT, setIfInBounds_toArray, set_cons_zero, set_cons_succ] at hK
    have HK := Lib.hid hK
    clear hK he
    go_simp
    go_at_call 44
    refine (of14_any _ _ _ _ _).mono ?_
    rintro en w9 ⟨rfl, h⟩
    go_simp
    exact HK.out _ _ (OfT.made m9 (((t9 _).keeps h).more h.size)) h
   ·clear hq
    simp only [getElem?_toArray, getElem?_cons_zero, getElem?_cons_succ, Option.some.injEq] at ho
    subst ho
    obtain ⟨R9, e9, h9, t9⟩ := he ⟨28, .data⟩ (by simp) rfl
    unfold RV.val at e9
    rw [e9] at hK ⊢
    rw [if_pos (by rfl)]
    simp only [put_someT, setIfInBounds_toArray, set_cons_zero, set_cons_succ] at hK
    have HK := Lib.hid hK
    clear hK he
    go_simp
    exact HK.out _ _ ⟨R9, rfl, h9, t9⟩ (Below.refl _ _)
   ·clear hq
    simp only [getElem?_toArray, getElem?_cons_zero, getElem?_cons_succ, Option.some.injEq] at ho
    subst ho
    rw [if_pos (by rfl)]
    simp only [put_someT, setIfInBounds_toArray, set_cons_zero, set_cons_succ] at hK
    have HK := Lib.hid hK
    clear hK he
    obtain ⟨_, c0, c1, c2, c3, c4, c5, c6⟩ := NW.out.x
    go_simp
    exact HK.out _ _ rfl (Below.refl _ _)
   ·clear hq
    simp only [getElem?_toArray, getElem?_cons_zero, getElem?_cons_succ, Option.some.injEq] at ho
    subst ho
    rw [if_pos (by rfl)]
    simp only [put_someT, setIfInBounds_toArray, set_cons_zero, set_cons_succ] at hK
    have HK := Lib.hid hK
    clear hK he
    obtain ⟨_, c0, c1, c2, c3, c4, c5, c6⟩ := NW.out.x
    go_simp
    exact HK.out _ _ rfl (Below.refl _ _)
   ·clear hq
    simp only [getElem?_toArray, getElem?_cons_zero, getElem?_cons_succ, Option.some.injEq] at ho
    subst ho
    have e30 : vs 30 = _ := he ⟨30, .data⟩ (by simp) rfl
    have e31 : vs 31 = _ := he ⟨31, .data⟩ (by simp) rfl
    rw [e30, e31] at hK ⊢
    rw [if_pos (by rfl)]
    simp only [put_someT, setIfInBounds_toArray, set_cons_zero, set_cons_succ] at hK
    have HK := Lib.hid hK
    clear hK he
    go_simp
    exact HK.out _ _ (ArgsT.made (D := [atomR [120], atomR [120]]) (by simp only [List.map_cons, List.map_nil, atomR_tree]) rfl (by simp) (fun t ht => by simp only [List.mem_cons, List.not_mem_nil, or_false] at ht; rcases ht with e | e <;> rw [e] <;> first | exact atomR_rtree _ _ _ (by decide))) ((Below.refl _ _).alloc (Nat.le_refl _) _)
   ·clear hq
    simp only [getElem?_toArray, getElem?_cons_zero, getElem?_cons_succ, Option.some.injEq] at ho
    subst ho
    obtain ⟨D9, g9, e9, m9, t9⟩ := he ⟨32, .data⟩ (by simp) rfl
    rw [e9] at hK ⊢
    rw [if_pos (by rfl)]
    simp only [put_someT, setIfInBounds_toArray, set_cons_zero, set_cons_succ] at hK
    have HK := Lib.hid hK
    clear hK he
    go_simp
    go_at_call 44
    refine (of14_any _ _ _ _ _).mono ?_
    rintro en w9 ⟨rfl, h⟩
    go_simp
    exact HK.out _ _ (OfT.made m9 (((t9 _).keeps h).more h.size)) h
   ·clear hq
    simp only [getElem?_toArray, getElem?_cons_zero, getElem?_cons_succ, Option.some.injEq] at ho
    subst ho
    obtain ⟨R9, e9, h9, t9⟩ := he ⟨33, .data⟩ (by simp) rfl
    unfold RV.val at e9
    rw [e9] at hK ⊢
    rw [if_pos (by rfl)]
    simp only [put_someT, setIfInBounds_toArray, set_cons_zero, set_cons_succ] at hK
    have HK := Lib.hid hK
    clear hK he
    go_simp
    exact HK.out _ _ ⟨R9, rfl, h9, t9⟩ (Below.refl _ _)
   ·clear hq
    simp only [getElem?_toArray, getElem?_cons_zero, getElem?_cons_succ, Option.some.injEq] at ho
    subst ho
    rw [if_pos (by rfl)]
    simp only [put_someT, setIfInBounds_toArray, set_cons_zero, set_cons_succ] at hK
    have HK := Lib.hid hK
    clear hK he
    obtain ⟨_, c0, c1, c2, c3, c4, c5, c6⟩ := NW.out.x
    go_simp
    exact HK.out _ _ rfl (Below.refl _ _)
  ·obtain rfl | rfl | rfl | rfl | rfl | rfl | rfl | rfl | rfl | rfl | rfl | rfl := (show i = 36 ∨ i = 37 ∨ i = 38 ∨ i = 39 ∨ i = 40 ∨ i = 41 ∨ i = 42 ∨ i = 43 ∨ i = 44 ∨ i = 45 ∨ i = 46 ∨ i = 47 by exact (by omega))
   ·clear hq
    simp only [getElem?_toArray, getElem?_cons_zero, getElem?_cons_succ, Option.some.injEq] at ho
    subst ho
    rw [if_pos (by rfl)]
    simp only [put_someT, setIfInBounds_toArray, set_cons_zero, set_cons_succ] at hK
    have HK := Lib.hid hK
    clear hK he
    obtain ⟨_, c0, c1, c2, c3, c4, c5, c6⟩ := NW.out.y
    go_simp
    exact HK.out _ _ rfl (Below.refl _ _)
   ·clear hq
    simp only [getElem?_toArray, getElem?_cons_zero, getElem?_cons_succ, Option.some.injEq] at ho
    subst ho
    rw [if_pos (by rfl)]
    simp only [put_someT, setIfInBounds_toArray, set_cons_zero, set_cons_succ] at hK
    have HK := Lib.hid hK
    clear hK he
    obtain ⟨_, c0, c1, c2, c3, c4, c5, c6⟩ := NW.out.y
    go_simp
    exact HK.out _ _ rfl (Below.refl _ _)
   ·clear hq
    simp only [getElem?_toArray, getElem?_cons_zero, getElem?_cons_succ, Option.some.injEq] at ho
    subst ho
    have e35 : vs 35 = _ := he ⟨35, .data⟩ (by simp) rfl
    have e36 : vs 36 = _ := he ⟨36, .data⟩ (by simp) rfl
    have e37 : vs 37 = _ := he ⟨37, .data⟩ (by simp) rfl
    rw [e35, e36, e37] at hK ⊢
    rw [if_pos (by rfl)]
    simp only [put_someT, setIfInBounds_toArray, set_cons_zero, set_cons_succ] at hK
    have HK := Lib.hid hK
    clear hK he
    go_simp
    exact HK.out _ _ (ArgsT.made (D := [atomR [120], atomR [121], atomR [121]]) (by simp only [List.map_cons, List.map_nil, atomR_tree]) rfl (by simp) (fun t ht => by simp only [List.mem_cons, List.not_mem_nil, or_false] at ht; rcases ht with e | e | e <;> rw [e] <;> first | exact atomR_rtree _ _ _ (by decide))) ((Below.refl _ _).alloc (Nat.le_refl _) _)
   ·clear hq
    simp only [getElem?_toArray, getElem?_cons_zero, getElem?_cons_succ, Option.some.injEq] at ho
    subst ho
    obtain ⟨D9, g9, e9, m9, t9⟩ := he ⟨38, .data⟩ (by simp) rfl
    rw [e9] at hK ⊢
    rw [if_pos (by rfl)]
    simp only [put_someT, setIfInBounds_toArray, set_cons_zero, set_cons_succ] at hK
    have HK := Lib.hid hK
    clear hK he
    go_simp
    go_at_call 44
    refine (of14_any _ _ _ _ _).mono ?_
    rintro en w9 ⟨rfl, h⟩
    go_simp
    exact HK.out _ _ (OfT.made m9 (((t9 _).keeps h).more h.size)) h
   ·clear hq
    simp only [getElem?_toArray, getElem?_cons_zero, getElem?_cons_succ, Option.some.injEq] at ho
    subst ho
    obtain ⟨R9, e9, h9, t9⟩ := he ⟨39, .data⟩ (by simp) rfl
    unfold RV.val at e9
    rw [e9] at hK ⊢
    rw [if_pos (by rfl)]
    simp only [put_someT, setIfInBounds_toArray, set_cons_zero, set_cons_succ] at hK
    have HK := Lib.hid hK
    clear hK he
    go_simp
    exact HK.out _ _ ⟨R9, rfl, h9, t9⟩ (Below.refl _ _)
   ·clear hq
    simp only [getElem?_toArray, getElem?_cons_zero, getElem?_cons_succ, Option.some.injEq] at ho
    subst ho
    rw [if_pos (by rfl)]
    simp only [put_someT, setIfInBounds_toArray, set_cons_zero, set_cons_succ] at hK
    have HK := Lib.hid hK
    clear hK he
    obtain ⟨_, c0, c1, c2, c3, c4, c5, c6⟩ := NW.out.y
    go_simp
    exact HK.out _ _ rfl (Below.refl _ _)
   ·clear hq
    simp only [getElem?_toArray, getElem?_cons_zero, getElem?_cons_succ, Option.some.injEq] at ho
    subst ho
    rw [if_pos (by rfl)]
    simp only [put_someT, setIfInBounds_toArray, set_cons_zero, set_cons_succ] at hK
    have HK := Lib.hid hK
    clear hK he
    obtain ⟨_, c0, c1, c2, c3, c4, c5, c6⟩ := NW.out.y
    go_simp
    exact HK.out _ _ rfl (Below.refl _ _)
   ·clear hq
    simp only [getElem?_toArray, getElem?_cons_zero, getElem?_cons_succ, Option.some.injEq] at ho
    subst ho
    rw [if_pos (by rfl)]
    simp only [put_someT, setIfInBounds_toArray, set_cons_zero, set_cons_succ] at hK
    have HK := Lib.hid hK
    clear hK he
    obtain ⟨_, c0, c1, c2, c3, c4, c5, c6⟩ := NW.out.x
    go_simp
    exact HK.out _ _ rfl (Below.refl _ _)
   ·clear hq
    simp only [getElem?_toArray, getElem?_cons_zero, getElem?_cons_succ, Option.some.injEq] at ho
    subst ho
    have e41 : vs 41 = _ := he ⟨41, .data⟩ (by simp) rfl
    have e42 : vs 42 = _ := he ⟨42, .data⟩ (by simp) rfl
    have e43 : vs 43 = _ := he ⟨43, .data⟩ (by simp) rfl
    rw [e41, e42, e43] at hK ⊢
    rw [if_pos (by rfl)]
    simp only [put_someT, setIfInBounds_toArray, set_cons_zero, set_cons_succ] at hK
    have HK := Lib.hid hK
    clear hK he
    go_simp
    exact HK.out _ _ (ArgsT.made (D := [atomR [121], atomR [121], atomR [120]]) (by simp only [List.map_cons, List.map_nil, atomR_tree]) rfl (by simp) (fun t ht => by simp only [List.mem_cons, List.not_mem_nil, or_false] at ht; rcases ht with e | e | e <;> rw [e] <;> first | exact atomR_rtree _ _ _ (by decide))) ((Below.refl _ _).alloc (Nat.le_refl _) _)
   ·clear hq
    simp only [getElem?_toArray, getElem?_cons_zero, getElem?_cons_succ, Option.some.injEq] at ho
    subst ho
    obtain ⟨D9, g9, e9, m9, t9⟩ := he ⟨44, .data⟩ (by simp) rfl
    rw [e9] at hK ⊢
    rw [if_pos (by rfl)]
    simp only [put_someT, setIfInBounds_toArray, set_cons_zero, set_cons_succ] at hK
    have HK := Lib.hid hK
    clear hK he
    go_simp
    go_at_call 44
    refine (of14_any _ _ _ _ _).mono ?_
    rintro en w9 ⟨rfl, h⟩
    go_simp
    exact HK.out _ _ (OfT.made m9 (((t9 _).keeps h).more h.size)) h
   ·clear hq
    simp only [getElem?_toArray, getElem?_cons_zero, getElem?_cons_succ, Option.some.injEq] at ho
    subst ho
    obtain ⟨R9, e9, h9, t9⟩ := he ⟨45, .data⟩ (by simp) rfl
    unfold RV.val at e9
    rw [e9] at hK ⊢
    rw [if_pos (by rfl)]
    simp only [put_someT, setIfInBounds_toArray, set_cons_zero, set_cons_succ] at hK
    have HK := Lib.hid hK
    clear hK he
    go_simp
    exact HK.out _ _ ⟨R9, rfl, h9, t9⟩ (Below.refl _ _)
   ·clear hq
    simp only [getElem?_toArray, getElem?_cons_zero, getElem?_cons_succ, Option.some.injEq] at ho
    subst ho
    rw [if_pos (by rfl)]
    simp only [put_someT, setIfInBounds_toArray, set_cons_zero, set_cons_succ] at hK
    have HK := Lib.hid hK
    clear hK he
    obtain ⟨_, c0, c1, c2, c3, c4, c5, c6⟩ := NW.out.x
    go_simp
    exact HK.out _ _ rfl (Below.refl _ _)
  ·obtain rfl | rfl | rfl | rfl | rfl | rfl | rfl | rfl | rfl | rfl | rfl | rfl := (show i = 48 ∨ i = 49 ∨ i = 50 ∨ i = 51 ∨ i = 52 ∨ i = 53 ∨ i = 54 ∨ i = 55 ∨ i = 56 ∨ i = 57 ∨ i = 58 ∨ i = 59 by exact (by omega))
   ·clear hq
    simp only [getElem?_toArray, getElem?_cons_zero, getElem?_cons_succ, Option.some.injEq] at ho
    subst ho
    rw [if_pos (by rfl)]
    simp only [put_someT, setIfInBounds_toArray, set_cons_zero, set_cons_succ] at hK
    have HK := Lib.hid hK
    clear hK he
    obtain ⟨_, c0, c1, c2, c3, c4, c5, c6⟩ := NW.out.y
    go_simp
    exact HK.out _ _ rfl (Below.refl _ _)
   ·clear hq
    simp only [getElem?_toArray, getElem?_cons_zero, getElem?_cons_succ, Option.some.injEq] at ho
    subst ho
    rw [if_pos (by rfl)]
    simp only [put_someT, setIfInBounds_toArray, set_cons_zero, set_cons_succ] at hK
    have HK := Lib.hid hK
    clear hK he
    obtain ⟨_, c0, c1, c2, c3, c4, c5, c6⟩ := NW.out.x
    go_simp
    exact HK.out _ _ rfl (Below.refl _ _)
   ·clear hq
    simp only [getElem?_toArray, getElem?_cons_zero, getElem?_cons_succ, Option.some.injEq] at ho
    subst ho
    have e47 : vs 47 = _ := he ⟨47, .data⟩ (by simp) rfl
    have e48 : vs 48 = _ := he ⟨48, .data⟩ (by simp) rfl
    have e49 : vs 49 = _ := he ⟨49, .data⟩ (by simp) rfl
    rw [e47, e48, e49] at hK ⊢
    rw [if_pos (by rfl)]
    simp only [put_someT, setIfInBounds_toArray, set_cons_zero, set_cons_succ] at hK
    have HK := Lib.hid hK
    clear hK he
    go_simp
    exact HK.out _ _ (ArgsT.made (D := [atomR [120], atomR [121], atomR [120]]) (by simp only [List.map_cons, List.map_nil, atomR_tree]) rfl (by simp) (fun t ht => by simp only [List.mem_cons, List.not_mem_nil, or_false] at ht; rcases ht with e | e | e <;> rw [e] <;> first | exact atomR_rtree _ _ _ (by decide))) ((Below.refl _ _).alloc (Nat.le_refl _) _)
   ·clear hq
    simp only [getElem?_toArray, getElem?_cons_zero, getElem?_cons_succ, Option.some.injEq] at ho
    subst ho
    obtain ⟨D9, g9, e9, m9, t9⟩ := he ⟨50, .data⟩ (by simp) rfl
    rw [e9] at hK ⊢
    rw [if_pos (by rfl)]
    simp only [put_someT, setIfInBounds_toArray, set_cons_zero, set_cons_succ] at hK
    have HK := Lib.hid hK
    clear hK he
    go_simp
    go_at_call 44
    refine (of14_any _ _ _ _ _).mono ?_
    rintro en w9 ⟨rfl, h⟩
    go_simp
    exact HK.out _ _ (OfT.made m9 (((t9 _).keeps h).more h.size)) h
   ·clear hq
    simp only [getElem?_toArray, getElem?_cons_zero, getElem?_cons_succ, Option.some.injEq] at ho
    subst ho
    obtain ⟨R9, e9, h9, t9⟩ := he ⟨51, .data⟩ (by simp) rfl
    unfold RV.val at e9
    rw [e9] at hK ⊢
    rw [if_pos (by rfl)]
    simp only [put_someT, setIfInBounds_toArray, set_cons_zero, set_cons_succ] at hK
    have HK := Lib.hid hK
    clear hK he
    go_simp
    exact HK.out _ _ ⟨R9, rfl, h9, t9⟩ (Below.refl _ _)
   ·clear hq
    simp only [getElem?_toArray, getElem?_cons_zero, getElem?_cons_succ, Option.some.injEq] at ho
    subst ho
    rw [if_pos (by rfl)]
    simp only [put_someT, setIfInBounds_toArray, set_cons_zero, set_cons_succ] at hK
    have HK := Lib.hid hK
    clear hK he
    obtain ⟨_, c0, c1, c2, c3, c4, c5, c6⟩ := NW.out.y
    go_simp
    exact HK.out _ _ rfl (Below.refl _ _)
   ·clear hq
    simp only [getElem?_toArray, getElem?_cons_zero, getElem?_cons_succ, Option.some.injEq] at ho
    subst ho
    rw [if_pos (by rfl)]
    simp only [put_someT, setIfInBounds_toArray, set_cons_zero, set_cons_succ] at hK
    have HK := Lib.hid hK
    clear hK he
    obtain ⟨_, c0, c1, c2, c3, c4, c5, c6⟩ := NW.out.y
    go_simp
    exact HK.out _ _ rfl (Below.refl _ _)
   ·clear hq
    simp only [getElem?_toArray, getElem?_cons_zero, getElem?_cons_succ, Option.some.injEq] at ho
    subst ho
    rw [if_pos (by rfl)]
    simp only [put_someT, setIfInBounds_toArray, set_cons_zero, set_cons_succ] at hK
    have HK := Lib.hid hK
    clear hK he
    obtain ⟨_, c0, c1, c2, c3, c4, c5, c6⟩ := NW.out.x
    go_simp
    exact HK.out _ _ rfl (Below.refl _ _)
   ·clear hq
    simp only [getElem?_toArray, getElem?_cons_zero, getElem?_cons_succ, Option.some.injEq] at ho
    subst ho
    have e53 : vs 53 = _ := he ⟨53, .data⟩ (by simp) rfl
    have e54 : vs 54 = _ := he ⟨54, .data⟩ (by simp) rfl
    have e55 : vs 55 = _ := he ⟨55, .data⟩ (by simp) rfl
    rw [e53, e54, e55] at hK ⊢
    rw [if_pos (by rfl)]
    simp only [put_someT, setIfInBounds_toArray, set_cons_zero, set_cons_succ] at hK
    have HK := Lib.hid hK
    clear hK he
    go_simp
    exact HK.out _ _ (ArgsT.made (D := [atomR [121], atomR [121], atomR [120]]) (by simp only [List.map_cons, List.map_nil, atomR_tree]) rfl (by simp) (fun t ht => by simp only [List.mem_cons, List.not_mem_nil, or_false] at ht; rcases ht with e | e | e <;> rw [e] <;> first | exact atomR_rtree _ _ _ (by decide))) ((Below.refl _ _).alloc (Nat.le_refl _) _)
   ·clear hq
    simp only [getElem?_toArray, getElem?_cons_zero, getElem?_cons_succ, Option.some.injEq] at ho
    subst ho
    obtain ⟨D9, g9, e9, m9, t9⟩ := he ⟨56, .data⟩ (by simp) rfl
    rw [e9] at hK ⊢
    rw [if_pos (by rfl)]
    simp only [put_someT, setIfInBounds_toArray, set_cons_zero, set_cons_succ] at hK
    have HK := Lib.hid hK
    clear hK he
    go_simp
    go_at_call 44
    refine (of14_any _ _ _ _ _).mono ?_
    rintro en w9 ⟨rfl, h⟩
    go_simp
    exact HK.out _ _ (OfT.made m9 (((t9 _).keeps h).more h.size)) h
   ·clear hq
    simp only [getElem?_toArray, getElem?_cons_zero, getElem?_cons_succ, Option.some.injEq] at ho
    subst ho
    obtain ⟨R9, e9, h9, t9⟩ := he ⟨57, .data⟩ (by simp) rfl
    unfold RV.val at e9
    rw [e9] at hK ⊢
    rw [if_pos (by rfl)]
    simp only [put_someT, setIfInBounds_toArray, set_cons_zero, set_cons_succ] at hK
    have HK := Lib.hid hK
    clear hK he
    go_simp
    exact HK.out _ _ ⟨R9, rfl, h9, t9⟩ (Below.refl _ _)
   ·clear hq
    simp only [getElem?_toArray, getElem?_cons_zero, getElem?_cons_succ, Option.some.injEq] at ho
    subst ho
    rw [if_pos (by rfl)]
    simp only [put_someT, setIfInBounds_toArray, set_cons_zero, set_cons_succ] at hK
    have HK := Lib.hid hK
    clear hK he
    obtain ⟨_, c0, c1, c2, c3, c4, c5, c6⟩ := NW.out.x
    go_simp
    exact HK.out _ _ rfl (Below.refl _ _)
  ·obtain rfl | rfl | rfl | rfl | rfl | rfl | rfl | rfl | rfl | rfl | rfl | rfl := (show i = 60 ∨ i = 61 ∨ i = 62 ∨ i = 63 ∨ i = 64 ∨ i = 65 ∨ i = 66 ∨ i = 67 ∨ i = 68 ∨ i = 69 ∨ i = 70 ∨ i = 71 by exact (by omega))
   ·clear hq
    simp only [getElem?_toArray, getElem?_cons_zero, getElem?_cons_succ, Option.some.injEq] at ho
    subst ho
    rw [if_pos (by rfl)]
    simp only [put_someT, setIfInBounds_toArray, set_cons_zero, set_cons_succ] at hK
    have HK := Lib.hid hK
    clear hK he
    obtain ⟨_, c0, c1, c2, c3, c4, c5, c6⟩ := NW.out.x
    go_simp
    exact HK.out _ _ rfl (Below.refl _ _)
   ·clear hq
    simp only [getElem?_toArray, getElem?_cons_zero, getElem?_cons_succ, Option.some.injEq] at ho
    subst ho
    rw [if_pos (by rfl)]
    simp only [put_someT, setIfInBounds_toArray, set_cons_zero, set_cons_succ] at hK
    have HK := Lib.hid hK
    clear hK he
    obtain ⟨_, c0, c1, c2, c3, c4, c5, c6⟩ := NW.out.x
    go_simp
    exact HK.out _ _ rfl (Below.refl _ _)
   ·clear hq
    simp only [getElem?_toArray, getElem?_cons_zero, getElem?_cons_succ, Option.some.injEq] at ho
    subst ho
    have e59 : vs 59 = _ := he ⟨59, .data⟩ (by simp) rfl
    have e60 : vs 60 = _ := he ⟨60, .data⟩ (by simp) rfl
    have e61 : vs 61 = _ := he ⟨61, .data⟩ (by simp) rfl
    rw [e59, e60, e61] at hK ⊢
    rw [if_pos (by rfl)]
    simp only [put_someT, setIfInBounds_toArray, set_cons_zero, set_cons_succ] at hK
    have HK := Lib.hid hK
    clear hK he
    go_simp
    exact HK.out _ _ (ArgsT.made (D := [atomR [120], atomR [120], atomR [120]]) (by simp only [List.map_cons, List.map_nil, atomR_tree]) rfl (by simp) (fun t ht => by simp only [List.mem_cons, List.not_mem_nil, or_false] at ht; rcases ht with e | e | e <;> rw [e] <;> first | exact atomR_rtree _ _ _ (by decide))) ((Below.refl _ _).alloc (Nat.le_refl _) _)
   ·clear hq
    simp only [getElem?_toArray, getElem?_cons_zero, getElem?_cons_succ, Option.some.injEq] at ho
    subst ho
    obtain ⟨D9, g9, e9, m9, t9⟩ := he ⟨62, .data⟩ (by simp) rfl
    rw [e9] at hK ⊢
    rw [if_pos (by rfl)]
    simp only [put_someT, setIfInBounds_toArray, set_cons_zero, set_cons_succ] at hK
    have HK := Lib.hid hK
    clear hK he
    go_simp
    go_at_call 44
    refine (of14_any _ _ _ _ _).mono ?_
    rintro en w9 ⟨rfl, h⟩
    go_simp
    exact HK.out _ _ (OfT.made m9 (((t9 _).keeps h).more h.size)) h
   ·clear hq
    simp only [getElem?_toArray, getElem?_cons_zero, getElem?_cons_succ, Option.some.injEq] at ho
    subst ho
    obtain ⟨R9, e9, h9, t9⟩ := he ⟨63, .data⟩ (by simp) rfl
    unfold RV.val at e9
    rw [e9] at hK ⊢
    rw [if_pos (by rfl)]
    simp only [put_someT, setIfInBounds_toArray, set_cons_zero, set_cons_succ] at hK
    have HK := Lib.hid hK
    clear hK he
    go_simp
    exact HK.out _ _ ⟨R9, rfl, h9, t9⟩ (Below.refl _ _)
   ·clear hq
    simp only [getElem?_toArray, getElem?_cons_zero, getElem?_cons_succ, Option.some.injEq] at ho
    subst ho
    rw [if_pos (by rfl)]
    simp only [put_someT, setIfInBounds_toArray, set_cons_zero, set_cons_succ] at hK
    have HK := Lib.hid hK
    clear hK he
    obtain ⟨_, c0, c1, c2, c3, c4, c5, c6⟩ := NW.out.x
    go_simp
    exact HK.out _ _ rfl (Below.refl _ _)
   ·clear hq
    simp only [getElem?_toArray, getElem?_cons_zero, getElem?_cons_succ, Option.some.injEq] at ho
    subst ho
    rw [if_pos (by rfl)]
    simp only [put_someT, setIfInBounds_toArray, set_cons_zero, set_cons_succ] at hK
    have HK := Lib.hid hK
    clear hK he
    obtain ⟨_, c0, c1, c2, c3, c4, c5, c6⟩ := NW.out.y
    go_simp
    exact HK.out _ _ rfl (Below.refl _ _)
   ·clear hq
    simp only [getElem?_toArray, getElem?_cons_zero, getElem?_cons_succ, Option.some.injEq] at ho
    subst ho
    have e65 : vs 65 = _ := he ⟨65, .data⟩ (by simp) rfl
    have e66 : vs 66 = _ := he ⟨66, .data⟩ (by simp) rfl
    rw [e65, e66] at hK ⊢
    rw [if_pos (by rfl)]
    simp only [put_someT, setIfInBounds_toArray, set_cons_zero, set_cons_succ] at hK
    have HK := Lib.hid hK
    clear hK he
    go_simp
    exact HK.out _ _ (ArgsT.made (D := [atomR [120], atomR [121]]) (by simp only [List.map_cons, List.map_nil, atomR_tree]) rfl (by simp) (fun t ht => by simp only [List.mem_cons, List.not_mem_nil, or_false] at ht; rcases ht with e | e <;> rw [e] <;> first | exact atomR_rtree _ _ _ (by decide))) ((Below.refl _ _).alloc (Nat.le_refl _) _)
   ·clear hq
    simp only [getElem?_toArray, getElem?_cons_zero, getElem?_cons_succ, Option.some.injEq] at ho
    subst ho
    obtain ⟨D9, g9, e9, m9, t9⟩ := he ⟨67, .data⟩ (by simp) rfl
    rw [e9] at hK ⊢
    rw [if_pos (by rfl)]
    simp only [put_someT, setIfInBounds_toArray, set_cons_zero, set_cons_succ] at hK
    have HK := Lib.hid hK
    clear hK he
    go_simp
    go_at_call 44
    refine (of14_any _ _ _ _ _).mono ?_
    rintro en w9 ⟨rfl, h⟩
    go_simp
    exact HK.out _ _ (OfT.made m9 (((t9 _).keeps h).more h.size)) h
   ·clear hq
    simp only [getElem?_toArray, getElem?_cons_zero, getElem?_cons_succ, Option.some.injEq] at ho
    subst ho
    rw [if_pos (by rfl)]
    simp only [put_someT, setIfInBounds_toArray, set_cons_zero, set_cons_succ] at hK
    have HK := Lib.hid hK
    clear hK he
    go_simp
    go_at_call 58
    refine (atom14_any _ _).mono ?_
    rintro en w9 ⟨rfl, h⟩
    go_simp
    exact HK.out _ _ rfl h
   ·clear hq
    simp only [getElem?_toArray, getElem?_cons_zero, getElem?_cons_succ, Option.some.injEq] at ho
    subst ho
    obtain ⟨R68, e68, h68, t68⟩ := he ⟨68, .data⟩ (by simp) rfl
    unfold RV.val at e68
    have e69 : vs 69 = _ := he ⟨69, .data⟩ (by simp) rfl
    rw [e68, e69] at hK ⊢
    rw [if_pos (by rfl)]
    simp only [put_someT, setIfInBounds_toArray, set_cons_zero, set_cons_succ] at hK
    have HK := Lib.hid hK
    clear hK he
    go_simp
    exact HK.out _ _ (ArgsT.made (D := [R68, atomR [122]]) (by simp only [List.map_cons, List.map_nil, atomR_tree, h68]) rfl (by simp) (fun t ht => by simp only [List.mem_cons, List.not_mem_nil, or_false] at ht; rcases ht with e | e <;> rw [e] <;> first | exact atomR_rtree _ _ _ (by decide) | exact t68)) ((Below.refl _ _).alloc (Nat.le_refl _) _)
   ·clear hq
    simp only [getElem?_toArray, getElem?_cons_zero, getElem?_cons_succ, Option.some.injEq] at ho
    subst ho
    obtain ⟨D9, g9, e9, m9, t9⟩ := he ⟨70, .data⟩ (by simp) rfl
    rw [e9] at hK ⊢
    rw [if_pos (by rfl)]
    simp only [put_someT, setIfInBounds_toArray, set_cons_zero, set_cons_succ] at hK
    have HK := Lib.hid hK
    clear hK he
    go_simp
    go_at_call 44
    refine (of14_any _ _ _ _ _).mono ?_
    rintro en w9 ⟨rfl, h⟩
    go_simp
    exact HK.out _ _ (OfT.made m9 (((t9 _).keeps h).more h.size)) h
  ·obtain rfl | rfl | rfl | rfl | rfl | rfl | rfl | rfl | rfl | rfl | rfl | rfl := (show i = 72 ∨ i = 73 ∨ i = 74 ∨ i = 75 ∨ i = 76 ∨ i = 77 ∨ i = 78 ∨ i = 79 ∨ i = 80 ∨ i = 81 ∨ i = 82 ∨ i = 83 by exact (by omega))
   ·clear hq
    simp only [getElem?_toArray, getElem?_cons_zero, getElem?_cons_succ, Option.some.injEq] at ho
    subst ho
    obtain ⟨R9, e9, h9, t9⟩ := he ⟨71, .data⟩ (by simp) rfl
    unfold RV.val at e9
    rw [e9] at hK ⊢
    rw [if_pos (by rfl)]
    simp only [put_someT, setIfInBounds_toArray, set_cons_zero, set_cons_succ] at hK
    have HK := Lib.hid hK
    clear hK he
    go_simp
    exact HK.out _ _ ⟨R9, rfl, h9, t9⟩ (Below.refl _ _)
   ·clear hq
    simp only [getElem?_toArray, getElem?_cons_zero, getElem?_cons_succ, Option.some.injEq] at ho
    subst ho
    rw [if_pos (by rfl)]
    simp only [put_someT, setIfInBounds_toArray, set_cons_zero, set_cons_succ] at hK
    have HK := Lib.hid hK
    clear hK he
    obtain ⟨_, c0, c1, c2, c3, c4, c5, c6⟩ := NW.out.x
    go_simp
    exact HK.out _ _ rfl (Below.refl _ _)
   ·clear hq
    simp only [getElem?_toArray, getElem?_cons_zero, getElem?_cons_succ, Option.some.injEq] at ho
    subst ho
    rw [if_pos (by rfl)]
    simp only [put_someT, setIfInBounds_toArray, set_cons_zero, set_cons_succ] at hK
    have HK := Lib.hid hK
    clear hK he
    obtain ⟨_, c0, c1, c2, c3, c4, c5, c6⟩ := NW.out.x
    go_simp
    exact HK.out _ _ rfl (Below.refl _ _)
   ·clear hq
    simp only [getElem?_toArray, getElem?_cons_zero, getElem?_cons_succ, Option.some.injEq] at ho
    subst ho
    rw [if_pos (by rfl)]
    simp only [put_someT, setIfInBounds_toArray, set_cons_zero, set_cons_succ] at hK
    have HK := Lib.hid hK
    clear hK he
    obtain ⟨_, c0, c1, c2, c3, c4, c5, c6⟩ := NW.out.y
    go_simp
    exact HK.out _ _ rfl (Below.refl _ _)
   ·clear hq
    simp only [getElem?_toArray, getElem?_cons_zero, getElem?_cons_succ, Option.some.injEq] at ho
    subst ho
    have e74 : vs 74 = _ := he ⟨74, .data⟩ (by simp) rfl
    have e75 : vs 75 = _ := he ⟨75, .data⟩ (by simp) rfl
    rw [e74, e75] at hK ⊢
    rw [if_pos (by rfl)]
    simp only [put_someT, setIfInBounds_toArray, set_cons_zero, set_cons_succ] at hK
    have HK := Lib.hid hK
    clear hK he
    go_simp
    exact HK.out _ _ (ArgsT.made (D := [atomR [120], atomR [121]]) (by simp only [List.map_cons, List.map_nil, atomR_tree]) rfl (by simp) (fun t ht => by simp only [List.mem_cons, List.not_mem_nil, or_false] at ht; rcases ht with e | e <;> rw [e] <;> first | exact atomR_rtree _ _ _ (by decide))) ((Below.refl _ _).alloc (Nat.le_refl _) _)
   ·clear hq
    simp only [getElem?_toArray, getElem?_cons_zero, getElem?_cons_succ, Option.some.injEq] at ho
    subst ho
    obtain ⟨D9, g9, e9, m9, t9⟩ := he ⟨76, .data⟩ (by simp) rfl
    rw [e9] at hK ⊢
    rw [if_pos (by rfl)]
    simp only [put_someT, setIfInBounds_toArray, set_cons_zero, set_cons_succ] at hK
    have HK := Lib.hid hK
    clear hK he
    go_simp
    go_at_call 44
    refine (of14_any _ _ _ _ _).mono ?_
    rintro en w9 ⟨rfl, h⟩
    go_simp
    exact HK.out _ _ (OfT.made m9 (((t9 _).keeps h).more h.size)) h
   ·clear hq
    simp only [getElem?_toArray, getElem?_cons_zero, getElem?_cons_succ, Option.some.injEq] at ho
    subst ho
    have e73 : vs 73 = _ := he ⟨73, .data⟩ (by simp) rfl
    obtain ⟨R77, e77, h77, t77⟩ := he ⟨77, .data⟩ (by simp) rfl
    unfold RV.val at e77
    rw [e73, e77] at hK ⊢
    rw [if_pos (by rfl)]
    simp only [put_someT, setIfInBounds_toArray, set_cons_zero, set_cons_succ] at hK
    have HK := Lib.hid hK
    clear hK he
    go_simp
    exact HK.out _ _ (ArgsT.made (D := [atomR [120], R77]) (by simp only [List.map_cons, List.map_nil, atomR_tree, h77]) rfl (by simp) (fun t ht => by simp only [List.mem_cons, List.not_mem_nil, or_false] at ht; rcases ht with e | e <;> rw [e] <;> first | exact atomR_rtree _ _ _ (by decide) | exact t77)) ((Below.refl _ _).alloc (Nat.le_refl _) _)
   ·clear hq
    simp only [getElem?_toArray, getElem?_cons_zero, getElem?_cons_succ, Option.some.injEq] at ho
    subst ho
    obtain ⟨D9, g9, e9, m9, t9⟩ := he ⟨78, .data⟩ (by simp) rfl
    rw [e9] at hK ⊢
    rw [if_pos (by rfl)]
    simp only [put_someT, setIfInBounds_toArray, set_cons_zero, set_cons_succ] at hK
    have HK := Lib.hid hK
    clear hK he
    go_simp
    go_at_call 44
    refine (of14_any _ _ _ _ _).mono ?_
    rintro en w9 ⟨rfl, h⟩
    go_simp
    exact HK.out _ _ (OfT.made m9 (((t9 _).keeps h).more h.size)) h
   ·clear hq
    simp only [getElem?_toArray, getElem?_cons_zero, getElem?_cons_succ, Option.some.injEq] at ho
    subst ho
    obtain ⟨R9, e9, h9, t9⟩ := he ⟨79, .data⟩ (by simp) rfl
    unfold RV.val at e9
    rw [e9] at hK ⊢
    rw [if_pos (by rfl)]
    simp only [put_someT, setIfInBounds_toArray, set_cons_zero, set_cons_succ] at hK
    have HK := Lib.hid hK
    clear hK he
    go_simp
    exact HK.out _ _ ⟨R9, rfl, h9, t9⟩ (Below.refl _ _)
   ·clear hq
    simp only [getElem?_toArray, getElem?_cons_zero, getElem?_cons_succ, Option.some.injEq] at ho
    subst ho
    rw [if_pos (by rfl)]
    simp only [put_someT, setIfInBounds_toArray, set_cons_zero, set_cons_succ] at hK
    have HK := Lib.hid hK
    clear hK he
    go_simp
    go_at_call 58
    refine (atom14_any _ _).mono ?_
    rintro en w9 ⟨rfl, h⟩
    go_simp
    exact HK.out _ _ rfl h
   ·clear hq
    simp only [getElem?_toArray, getElem?_cons_zero, getElem?_cons_succ, Option.some.injEq] at ho
    subst ho
    have e9 : vs 81 = _ := he ⟨81, .data⟩ (by simp) rfl
    rw [e9] at hK ⊢
    rw [if_pos (by rfl)]
    simp only [put_someT, setIfInBounds_toArray, set_cons_zero, set_cons_succ] at hK
    have HK := Lib.hid hK
    clear hK he
    go_simp
    exact HK.out _ _ ⟨atomR [110, 111, 110, 101], rfl, rfl, atomR_rtree _ _ _ (by decide)⟩ (Below.refl _ _)
   ·clear hq
    simp only [getElem?_toArray, getElem?_cons_zero, getElem?_cons_succ, Option.some.injEq] at ho
    subst ho
    rw [if_pos (by rfl)]
    simp only [put_someT, setIfInBounds_toArray, set_cons_zero, set_cons_succ] at hK
    have HK := Lib.hid hK
    clear hK he
    go_simp
    go_at_call 58
    refine (atom14_any _ _).mono ?_
    rintro en w9 ⟨rfl, h⟩
    go_simp
    exact HK.out _ _ rfl h
  ·obtain rfl | rfl | rfl | rfl | rfl | rfl | rfl | rfl | rfl | rfl | rfl | rfl := (show i = 84 ∨ i = 85 ∨ i = 86 ∨ i = 87 ∨ i = 88 ∨ i = 89 ∨ i = 90 ∨ i = 91 ∨ i = 92 ∨ i = 93 ∨ i = 94 ∨ i = 95 by exact (by omega))
   ·clear hq
    simp only [getElem?_toArray, getElem?_cons_zero, getElem?_cons_succ, Option.some.injEq] at ho
    subst ho
    rw [if_pos (by rfl)]
    simp only [put_someT, setIfInBounds_toArray, set_cons_zero, set_cons_succ] at hK
    have HK := Lib.hid hK
    clear hK he
    go_simp
    go_at_call 58
    refine (atom14_any _ _).mono ?_
    rintro en w9 ⟨rfl, h⟩
    go_simp
    exact HK.out _ _ rfl h
   ·clear hq
    simp only [getElem?_toArray, getElem?_cons_zero, getElem?_cons_succ, Option.some.injEq] at ho
    subst ho
    have e83 : vs 83 = _ := he ⟨83, .data⟩ (by simp) rfl
    have e84 : vs 84 = _ := he ⟨84, .data⟩ (by simp) rfl
    rw [e83, e84] at hK ⊢
    rw [if_pos (by rfl)]
    simp only [put_someT, setIfInBounds_toArray, set_cons_zero, set_cons_succ] at hK
    have HK := Lib.hid hK
    clear hK he
    go_simp
    exact HK.out _ _ (ArgsT.made (D := [atomR [120], atomR [110, 111, 110, 101]]) (by simp only [List.map_cons, List.map_nil, atomR_tree]) rfl (by simp) (fun t ht => by simp only [List.mem_cons, List.not_mem_nil, or_false] at ht; rcases ht with e | e <;> rw [e] <;> first | exact atomR_rtree _ _ _ (by decide))) ((Below.refl _ _).alloc (Nat.le_refl _) _)
   ·clear hq
    simp only [getElem?_toArray, getElem?_cons_zero, getElem?_cons_succ, Option.some.injEq] at ho
    subst ho
    obtain ⟨D9, g9, e9, m9, t9⟩ := he ⟨85, .data⟩ (by simp) rfl
    rw [e9] at hK ⊢
    rw [if_pos (by rfl)]
    simp only [put_someT, setIfInBounds_toArray, set_cons_zero, set_cons_succ] at hK
    have HK := Lib.hid hK
    clear hK he
    go_simp
    go_at_call 44
    refine (of14_any _ _ _ _ _).mono ?_
    rintro en w9 ⟨rfl, h⟩
    go_simp
    exact HK.out _ _ (OfT.made m9 (((t9 _).keeps h).more h.size)) h
   ·clear hq
    simp only [getElem?_toArray, getElem?_cons_zero, getElem?_cons_succ, Option.some.injEq] at ho
    subst ho
    obtain ⟨R9, e9, h9, t9⟩ := he ⟨86, .data⟩ (by simp) rfl
    unfold RV.val at e9
    rw [e9] at hK ⊢
    rw [if_pos (by rfl)]
    simp only [put_someT, setIfInBounds_toArray, set_cons_zero, set_cons_succ] at hK
    have HK := Lib.hid hK
    clear hK he
    go_simp
    exact HK.out _ _ ⟨R9, rfl, h9, t9⟩ (Below.refl _ _)
   ·clear hq
    simp only [getElem?_toArray, getElem?_cons_zero, getElem?_cons_succ, Option.some.injEq] at ho
    subst ho
    rw [if_pos (by rfl)]
    simp only [put_someT, setIfInBounds_toArray, set_cons_zero, set_cons_succ] at hK
    have HK := Lib.hid hK
    clear hK he
    go_simp
    exact HK.out _ _ rfl (Below.refl _ _)
   ·clear hq
    simp only [getElem?_toArray, getElem?_cons_zero, getElem?_cons_succ, Option.some.injEq] at ho
    subst ho
    have e9 : vs 88 = _ := he ⟨88, .data⟩ (by simp) rfl
    rw [e9] at hK ⊢
    rw [if_pos (by rfl)]
    simp only [put_someT, setIfInBounds_toArray, set_cons_zero, set_cons_succ] at hK
    have HK := Lib.hid hK
    clear hK he
    go_simp
    exact HK.out _ _ ⟨.node 0 zeroT none 0 [], rfl, rfl, nm_no _ _ _⟩ (Below.refl _ _)
   ·clear hq
    simp only [getElem?_toArray, getElem?_cons_zero, getElem?_cons_succ, Option.some.injEq] at ho
    subst ho
    rw [if_pos (by rfl)]
    simp only [put_someT, setIfInBounds_toArray, set_cons_zero, set_cons_succ] at hK
    have HK := Lib.hid hK
    clear hK he
    obtain ⟨_, c0, c1, c2, c3, c4, c5, c6⟩ := NW.out.x
    go_simp
    exact HK.out _ _ rfl (Below.refl _ _)
   ·clear hq
    simp only [getElem?_toArray, getElem?_cons_zero, getElem?_cons_succ, Option.some.injEq] at ho
    subst ho
    have e90 : vs 90 = _ := he ⟨90, .data⟩ (by simp) rfl
    rw [e90] at hK ⊢
    rw [if_pos (by rfl)]
    simp only [put_someT, setIfInBounds_toArray, set_cons_zero, set_cons_succ] at hK
    have HK := Lib.hid hK
    clear hK he
    go_simp
    exact HK.out _ _ (ArgsT.made (D := [atomR [120]]) (by simp only [List.map_cons, List.map_nil, atomR_tree]) rfl (by simp) (fun t ht => by rw [List.mem_singleton.1 ht]; exact atomR_rtree _ _ _ (by decide))) ((Below.refl _ _).alloc (Nat.le_refl _) _)
   ·clear hq
    simp only [getElem?_toArray, getElem?_cons_zero, getElem?_cons_succ, Option.some.injEq] at ho
    subst ho
    obtain ⟨D9, g9, e9, m9, t9⟩ := he ⟨91, .data⟩ (by simp) rfl
    rw [e9] at hK ⊢
    rw [if_pos (by rfl)]
    simp only [put_someT, setIfInBounds_toArray, set_cons_zero, set_cons_succ] at hK
    have HK := Lib.hid hK
    clear hK he
    go_simp
    go_at_call 44
    refine (of14_any _ _ _ _ _).mono ?_
    rintro en w9 ⟨rfl, h⟩
    go_simp
    exact HK.out _ _ (OfT.made m9 (((t9 _).keeps h).more h.size)) h
   ·clear hq
    simp only [getElem?_toArray, getElem?_cons_zero, getElem?_cons_succ, Option.some.injEq] at ho
    subst ho
    obtain ⟨R9, e9, h9, t9⟩ := he ⟨92, .data⟩ (by simp) rfl
    unfold RV.val at e9
    rw [e9] at hK ⊢
    rw [if_pos (by rfl)]
    simp only [put_someT, setIfInBounds_toArray, set_cons_zero, set_cons_succ] at hK
    have HK := Lib.hid hK
    clear hK he
    go_simp
    exact HK.out _ _ ⟨R9, rfl, h9, t9⟩ (Below.refl _ _)
   ·clear hq
    simp only [getElem?_toArray, getElem?_cons_zero, getElem?_cons_succ, Option.some.injEq] at ho
    subst ho
    rw [if_pos (by rfl)]
    simp only [put_someT, setIfInBounds_toArray, set_cons_zero, set_cons_succ] at hK
    have HK := Lib.hid hK
    clear hK he
    go_simp
    go_at_call 44
    refine (of14_any _ _ _ _ _).mono ?_
    rintro en w9 ⟨rfl, h⟩
    go_simp
    exact HK.out _ _ ⟨.node 2 zeroT none 0 [], rfl, rfl, nm_no _ _ _⟩ h
   ·clear hq
    simp only [getElem?_toArray, getElem?_cons_zero, getElem?_cons_succ, Option.some.injEq] at ho
    subst ho
    obtain ⟨R9, e9, h9, t9⟩ := he ⟨94, .data⟩ (by simp) rfl
    unfold RV.val at e9
    rw [e9] at hK ⊢
    rw [if_pos (by rfl)]
    simp only [put_someT, setIfInBounds_toArray, set_cons_zero, set_cons_succ] at hK
    have HK := Lib.hid hK
    clear hK he
    go_simp
    exact HK.out _ _ ⟨R9, rfl, h9, t9⟩ (Below.refl _ _)
  ·obtain rfl | rfl | rfl | rfl | rfl | rfl | rfl | rfl | rfl | rfl | rfl | rfl := (show i = 96 ∨ i = 97 ∨ i = 98 ∨ i = 99 ∨ i = 100 ∨ i = 101 ∨ i = 102 ∨ i = 103 ∨ i = 104 ∨ i = 105 ∨ i = 106 ∨ i = 107 by exact (by omega))
   ·clear hq
    simp only [getElem?_toArray, getElem?_cons_zero, getElem?_cons_succ, Option.some.injEq] at ho
    subst ho
    rw [if_pos (by rfl)]
    simp (maxSteps := 1000000) only [put_someT, setIfInBounds_toArray, set_cons_zero, set_cons_succ] at hK
    have HK := Lib.hid hK
    clear hK he
    obtain ⟨_, c0, c1, c2, c3, c4, c5, c6⟩ := NW.out.x
    go_simp
    exact HK.out _ _ rfl (Below.refl _ _)
   ·clear hq
    simp only [getElem?_toArray, getElem?_cons_zero, getElem?_cons_succ, Option.some.injEq] at ho
    subst ho
    rw [if_pos (by rfl)]
    simp (maxSteps := 1000000) only [put_someT, setIfInBounds_toArray, set_cons_zero, set_cons_succ] at hK
    have HK := Lib.hid hK
    clear hK he
    go_simp
    go_at_call 58
    refine (atom14_any _ _).mono ?_
    rintro en w9 ⟨rfl, h⟩
    go_simp
    exact HK.out _ _ rfl h
   ·clear hq
    simp only [getElem?_toArray, getElem?_cons_zero, getElem?_cons_succ, Option.some.injEq] at ho
    subst ho
    rw [if_pos (by rfl)]
    simp (maxSteps := 1000000) only [put_someT, setIfInBounds_toArray, set_cons_zero, set_cons_succ] at hK
    have HK := Lib.hid hK
    clear hK he
    obtain ⟨_, c0, c1, c2, c3, c4, c5, c6⟩ := NW.out.x
    go_simp
    exact HK.out _ _ rfl (Below.refl _ _)
   ·clear hq
    simp only [getElem?_toArray, getElem?_cons_zero, getElem?_cons_succ, Option.some.injEq] at ho
    subst ho
    rw [if_pos (by rfl)]
    simp (maxSteps := 1000000) only [put_someT, setIfInBounds_toArray, set_cons_zero, set_cons_succ] at hK
    have HK := Lib.hid hK
    clear hK he
    obtain ⟨_, c0, c1, c2, c3, c4, c5, c6⟩ := NW.out.x
    go_simp
    exact HK.out _ _ rfl (Below.refl _ _)
   ·clear hq
    simp only [getElem?_toArray, getElem?_cons_zero, getElem?_cons_succ, Option.some.injEq] at ho
    subst ho
    have e96 : vs 96 = _ := he ⟨96, .data⟩ (by simp) rfl
    have e97 : vs 97 = _ := he ⟨97, .data⟩ (by simp) rfl
    have e98 : vs 98 = _ := he ⟨98, .data⟩ (by simp) rfl
    have e99 : vs 99 = _ := he ⟨99, .data⟩ (by simp) rfl
    rw [e96, e97, e98, e99] at hK ⊢
    rw [if_pos (by rfl)]
    simp (maxSteps := 1000000) only [put_someT, setIfInBounds_toArray, set_cons_zero, set_cons_succ] at hK
    have HK := Lib.hid hK
    clear hK he
    go_simp
    exact HK.out _ _ (ArgsT.made (D := [atomR [120], atomR [110, 111, 110, 101], atomR [120], atomR [120]]) (by simp only [List.map_cons, List.map_nil, atomR_tree]) rfl (by simp) (fun t ht => by simp only [List.mem_cons, List.not_mem_nil, or_false] at ht; rcases ht with e | e | e | e <;> rw [e] <;> first | exact atomR_rtree _ _ _ (by decide))) ((Below.refl _ _).alloc (Nat.le_refl _) _)
   ·clear hq
    simp only [getElem?_toArray, getElem?_cons_zero, getElem?_cons_succ, Option.some.injEq] at ho
    subst ho
    obtain ⟨D9, g9, e9, m9, t9⟩ := he ⟨100, .data⟩ (by simp) rfl
    rw [e9] at hK ⊢
    rw [if_pos (by rfl)]
    simp (maxSteps := 1000000) only [put_someT, setIfInBounds_toArray, set_cons_zero, set_cons_succ] at hK
    have HK := Lib.hid hK
    clear hK he
    go_simp
    go_at_call 44
    refine (of14_any _ _ _ _ _).mono ?_
    rintro en w9 ⟨rfl, h⟩
    go_simp
    exact HK.out _ _ (OfT.made m9 (((t9 _).keeps h).more h.size)) h
   ·clear hq
    simp only [getElem?_toArray, getElem?_cons_zero, getElem?_cons_succ, Option.some.injEq] at ho
    subst ho
    obtain ⟨R9, e9, h9, t9⟩ := he ⟨101, .data⟩ (by simp) rfl
    unfold RV.val at e9
    rw [e9] at hK ⊢
    rw [if_pos (by rfl)]
    simp (maxSteps := 1000000) only [put_someT, setIfInBounds_toArray, set_cons_zero, set_cons_succ] at hK
    have HK := Lib.hid hK
    clear hK he
    go_simp
    exact HK.out _ _ ⟨R9, rfl, h9, t9⟩ (Below.refl _ _)
   ·clear hq
    simp only [getElem?_toArray, getElem?_cons_zero, getElem?_cons_succ, Option.some.injEq] at ho
    subst ho
    rw [if_pos (by rfl)]
    simp (maxSteps := 1000000) only [put_someT, setIfInBounds_toArray, set_cons_zero, set_cons_succ] at hK
    have HK := Lib.hid hK
    clear hK he
    go_simp
    exact HK.out _ _ rfl (Below.refl _ _)
   ·clear hq
    simp only [getElem?_toArray, getElem?_cons_zero, getElem?_cons_succ, Option.some.injEq] at ho
    subst ho
    have e9 : vs 103 = _ := he ⟨103, .data⟩ (by simp) rfl
    rw [e9] at hK ⊢
    rw [if_pos (by rfl)]
    simp (maxSteps := 1000000) only [put_someT, setIfInBounds_toArray, set_cons_zero, set_cons_succ] at hK
    have HK := Lib.hid hK
    clear hK he
    go_simp
    exact HK.out _ _ ⟨.node 9 zeroT none 0 [], rfl, rfl, nm_no _ _ _⟩ (Below.refl _ _)
   ·clear hq
    simp only [getElem?_toArray, getElem?_cons_zero, getElem?_cons_succ, Option.some.injEq] at ho
    subst ho
    obtain ⟨R4, e4, h4, t4⟩ := he ⟨4, .data⟩ (by simp) rfl
    obtain ⟨R9, e9, h9, t9⟩ := he ⟨9, .data⟩ (by simp) rfl
    obtain ⟨R14, e14, h14, t14⟩ := he ⟨14, .data⟩ (by simp) rfl
    obtain ⟨R19, e19, h19, t19⟩ := he ⟨19, .data⟩ (by simp) rfl
    obtain ⟨R24, e24, h24, t24⟩ := he ⟨24, .data⟩ (by simp) rfl
    obtain ⟨R29, e29, h29, t29⟩ := he ⟨29, .data⟩ (by simp) rfl
    obtain ⟨R34, e34, h34, t34⟩ := he ⟨34, .data⟩ (by simp) rfl
    obtain ⟨R40, e40, h40, t40⟩ := he ⟨40, .data⟩ (by simp) rfl
    obtain ⟨R46, e46, h46, t46⟩ := he ⟨46, .data⟩ (by simp) rfl
    obtain ⟨R52, e52, h52, t52⟩ := he ⟨52, .data⟩ (by simp) rfl
    obtain ⟨R58, e58, h58, t58⟩ := he ⟨58, .data⟩ (by simp) rfl
    obtain ⟨R64, e64, h64, t64⟩ := he ⟨64, .data⟩ (by simp) rfl
    obtain ⟨R72, e72, h72, t72⟩ := he ⟨72, .data⟩ (by simp) rfl
    obtain ⟨R80, e80, h80, t80⟩ := he ⟨80, .data⟩ (by simp) rfl
    obtain ⟨R82, e82, h82, t82⟩ := he ⟨82, .data⟩ (by simp) rfl
    obtain ⟨R87, e87, h87, t87⟩ := he ⟨87, .data⟩ (by simp) rfl
    obtain ⟨R89, e89, h89, t89⟩ := he ⟨89, .data⟩ (by simp) rfl
    obtain ⟨R93, e93, h93, t93⟩ := he ⟨93, .data⟩ (by simp) rfl
    obtain ⟨R95, e95, h95, t95⟩ := he ⟨95, .data⟩ (by simp) rfl
    obtain ⟨R102, e102, h102, t102⟩ := he ⟨102, .data⟩ (by simp) rfl
    obtain ⟨R104, e104, h104, t104⟩ := he ⟨104, .data⟩ (by simp) rfl
    rw [e4, e9, e14, e19, e24, e29, e34, e40, e46, e52, e58, e64, e72, e80, e82, e87, e89, e93, e95, e102, e104] at hK ⊢
    rw [if_pos (by rfl)]
    simp (maxSteps := 1000000) only [put_someT, setIfInBounds_toArray, set_cons_zero, set_cons_succ] at hK
    have HK := Lib.hid hK
    clear hK he
    simp (maxSteps := 4000000) [go_sem]
    refine HK.out _ _ (TabT.made [(R4, (48, 48, 48, 49)), (R9, (48, 49, 49, 49)), (R14, (49, 49, 48, 49)), (R19, (48, 49, 48, 48)), (R24, (48, 48, 48, 48)), (R29, (48, 49, 48, 49)), (R34, (48, 48, 48, 48)), (R40, (48, 48, 48, 49)), (R46, (48, 49, 49, 49)), (R52, (48, 49, 48, 49)), (R58, (48, 48, 48, 49)), (R64, (48, 49, 48, 49)), (R72, (48, 48, 49, 49)), (R80, (49, 49, 49, 49)), (R82, (48, 48, 48, 48)), (R87, (48, 49, 48, 49)), (R89, (48, 48, 48, 48)), (R93, (48, 48, 48, 48)), (R95, (48, 48, 48, 48)), (R102, (48, 48, 48, 48)), (R104, (48, 48, 48, 48))] rfl ?_ ?_ rfl) ((Below.refl _ _).alloc (Nat.le_refl _) _)
    ·simp only [List.map_cons, List.map_nil, h4, h9, h14, h19, h24, h29, h34, h40, h46, h52, h58, h64, h72, h80, h82, h87, h89, h93, h95, h102, h104]; rfl
    ·intro p hp
     simp only [List.mem_cons, List.not_mem_nil, or_false] at hp
     rcases hp with e | e | e | e | e | e | e | e | e | e | e | e | e | e | e | e | e | e | e | e | e <;> rw [e] <;> assumption
   ·clear hq
    simp only [getElem?_toArray, getElem?_cons_zero, getElem?_cons_succ, Option.some.injEq] at ho
    subst ho
    obtain ⟨A9, PL9, e9, _⟩ := he ⟨105, .data⟩ (by simp) rfl
    rw [e9] at hK ⊢
    rw [if_pos (by rfl)]
    simp (maxSteps := 1000000) only [put_someT, setIfInBounds_toArray, set_cons_zero, set_cons_succ] at hK
    have HK := Lib.hid hK
    clear hK he
    go_simp
    exact HK.out _ _ rfl (Below.refl _ _)
   ·clear hq
    simp only [getElem?_toArray, getElem?_cons_zero, getElem?_cons_succ, Option.some.injEq] at ho
    subst ho
    rw [if_pos (by rfl)]
    simp (maxSteps := 1000000) only [put_someT, setIfInBounds_toArray, set_cons_zero, set_cons_succ] at hK
    have HK := Lib.hid hK
    clear hK he
    go_simp
    exact HK.out _ _ rfl (Below.refl _ _)
 ·intro vs W5 hall hBW
  obtain ⟨TA, PL, eo, hPL, hrd, htr, hmap⟩ : TabT (vs 105) W5 := hall 105 (by decide)
  have e1 : vs 106 = .int .i64 21 := hall 106 (by decide)
  have e2 : vs 107 = .int .i64 0 := hall 107 (by decide)
  simp only [take_succ_cons, take_zero, List.drop_succ_cons, List.drop_zero, fillV, put_someT, put_noneC, setIfInBounds_toArray, set_cons_zero, set_cons_succ]
  rw [eo, e1, e2]
  generalize vs 0 = z0
  generalize vs 1 = z1
  generalize vs 2 = z2
  generalize vs 3 = z3
  generalize vs 4 = z4
  generalize vs 5 = z5
  generalize vs 6 = z6
  generalize vs 7 = z7
  generalize vs 8 = z8
  generalize vs 9 = z9
  generalize vs 10 = z10
  generalize vs 11 = z11
  generalize vs 12 = z12
  generalize vs 13 = z13
  generalize vs 14 = z14
  generalize vs 15 = z15
  generalize vs 16 = z16
  generalize vs 17 = z17
  generalize vs 18 = z18
  generalize vs 19 = z19
  generalize vs 20 = z20
  generalize vs 21 = z21
  generalize vs 22 = z22
  generalize vs 23 = z23
  generalize vs 24 = z24
  generalize vs 25 = z25
  generalize vs 26 = z26
  generalize vs 27 = z27
  generalize vs 28 = z28
  generalize vs 29 = z29
  generalize vs 30 = z30
  generalize vs 31 = z31
  generalize vs 32 = z32
  generalize vs 33 = z33
  generalize vs 34 = z34
  generalize vs 35 = z35
  generalize vs 36 = z36
  generalize vs 37 = z37
  generalize vs 38 = z38
  generalize vs 39 = z39
  generalize vs 40 = z40
  generalize vs 41 = z41
  generalize vs 42 = z42
  generalize vs 43 = z43
  generalize vs 44 = z44
  generalize vs 45 = z45
  generalize vs 46 = z46
  generalize vs 47 = z47
  generalize vs 48 = z48
  generalize vs 49 = z49
  generalize vs 50 = z50
  generalize vs 51 = z51
  generalize vs 52 = z52
  generalize vs 53 = z53
  generalize vs 54 = z54
  generalize vs 55 = z55
  generalize vs 56 = z56
  generalize vs 57 = z57
  generalize vs 58 = z58
  generalize vs 59 = z59
  generalize vs 60 = z60
  generalize vs 61 = z61
  generalize vs 62 = z62
  generalize vs 63 = z63
  generalize vs 64 = z64
  generalize vs 65 = z65
  generalize vs 66 = z66
  generalize vs 67 = z67
  generalize vs 68 = z68
  generalize vs 69 = z69
  generalize vs 70 = z70
  generalize vs 71 = z71
  generalize vs 72 = z72
  generalize vs 73 = z73
  generalize vs 74 = z74
  generalize vs 75 = z75
  generalize vs 76 = z76
  generalize vs 77 = z77
  generalize vs 78 = z78
  generalize vs 79 = z79
  generalize vs 80 = z80
  generalize vs 81 = z81
  generalize vs 82 = z82
  generalize vs 83 = z83
  generalize vs 84 = z84
  generalize vs 85 = z85
  generalize vs 86 = z86
  generalize vs 87 = z87
  generalize vs 88 = z88
  generalize vs 89 = z89
  generalize vs 90 = z90
  generalize vs 91 = z91
  generalize vs 92 = z92
  generalize vs 93 = z93
  generalize vs 94 = z94
  generalize vs 95 = z95
  generalize vs 96 = z96
  generalize vs 97 = z97
  generalize vs 98 = z98
  generalize vs 99 = z99
  generalize vs 100 = z100
  generalize vs 101 = z101
  generalize vs 102 = z102
  generalize vs 103 = z103
  generalize vs 104 = z104
  have NM5 := Lib.hid (NM.out.then hBW)
  have MEM := Lib.hid (fun (k : Nat) (hk : k < PL.length) => show (PL[k].1.tree, PL[k].2) ∈ nmT by rw [← hmap]; exact List.mem_map.2 ⟨_, List.getElem_mem hk, rfl⟩)
  have HPL := Lib.hid hPL
  have HRD := Lib.hid hrd
  have HTR := Lib.hid htr
  clear hall hBW eo e1 e2 hPL hrd htr hmap NM
  go_wp2_with fail
  go_loopw [161] (fun iv wr => ∃ k : Nat, k ≤ 21 ∧ iv = .int .i64 (k : Int) ∧ Below W5.heap.size W5 wr) (fun iv _ => 21 - (intOf iv).toNat)
  case atStart => exact ⟨0, by omega, rfl, Below.refl _ _⟩
  case round =>
   obtain ⟨k, hk, rfl, hB⟩ := hrel
   rename World => wr
   have HB := Lib.hid hB
   have NMR := Lib.hid (NM5.out.then hB)
   by_cases hlt : k < 21
   ·have hkl : k < PL.length := by have := HPL.out; omega
    obtain ⟨b, oo, hA, hb, a0, a1, a2, a3, a4, a5, a6, a7⟩ := ((HRD.out.below hB).more hB.size).nm_at hkl
    have hmem := MEM.out k hkl
    have hT := ((HTR.out _ (List.getElem_mem hkl)).keeps hB).more hB.size
    obtain ⟨qr, hqr⟩ : ∃ q, PL[k].1 = q := ⟨_, rfl⟩
    obtain ⟨qw, hqw⟩ : ∃ q, PL[k].2 = q := ⟨_, rfl⟩
    rw [hqr, hqw] at hmem
    rw [hqr] at a0 a1 a2 a3 a4 a5 a6 hT
    rw [hqw] at a7
    obtain ⟨q0, q1, q2, q3⟩ := qw
    dsimp only at a7
    have LW := Lib.hid (fun (i : Nat) (hi : i < 4) => show Tr.satS 2 PV (nmS i) qr.tree = (nmW (q0, q1, q2, q3) i == 49) from nm_at hmem hi)
    have PT9 := Lib.hid (show qr.tree.parts ≤ 1000000 from nm_parts hmem)
    have HT := Lib.hid hT
    have j0 : (0 : Int) ≤ (k : Int) := by omega
    have j1 : (k : Int) < 21 := by omega
    subst hA
    clear hkl hb hmem hT hqr hqw hB
    go_wp2_with fail
    obtain ⟨V, hV⟩ : ∃ V, V = wr.alloc (.cells #[.int .u8 qr.kind, .string (bs qr.dep.name), .int .u8 qr.dep.op, .int .i64 qr.dep.evr.epoch, .string (bs qr.dep.evr.ver), .string (bs qr.dep.evr.rel), .slice qr.addr qr.args.length qr.cap, .string ⟨#[q0, q1, q2, q3]⟩] 103) := ⟨_, rfl⟩
    rw [← hV]
    have bV : Below wr.heap.size wr V := by rw [hV]; exact (Below.refl _ _).alloc (Nat.le_refl _) _
    have lV : wr.heap.size < V.heap.size := by rw [hV]; simp
    have CV := Lib.hid (show V.cell? ⟨wr.heap.size, 0, none⟩ = some (.int .u8 qr.kind) ∧ V.cell? ⟨wr.heap.size, 1, none⟩ = some (.string (bs qr.dep.name)) ∧ V.cell? ⟨wr.heap.size, 2, none⟩ = some (.int .u8 qr.dep.op) ∧ V.cell? ⟨wr.heap.size, 3, none⟩ = some (.int .i64 qr.dep.evr.epoch) ∧ V.cell? ⟨wr.heap.size, 4, none⟩ = some (.string (bs qr.dep.evr.ver)) ∧ V.cell? ⟨wr.heap.size, 5, none⟩ = some (.string (bs qr.dep.evr.rel)) ∧ V.cell? ⟨wr.heap.size, 6, none⟩ = some (.slice qr.addr qr.args.length qr.cap) ∧ V.cell? ⟨wr.heap.size, 7, none⟩ = some (.string ⟨#[q0, q1, q2, q3]⟩) by rw [hV]; refine ⟨?_, ?_, ?_, ?_, ?_, ?_, ?_, ?_⟩ <;> simp [go_sem])
    have LV := Lib.hid lV
    have BV := Lib.hid bV
    have NMV := Lib.hid (NMR.out.then bV)
    have HTV := Lib.hid ((HT.out.keeps bV).more bV.size)
    clear a0 a1 a2 a3 a4 a5 a6 a7 j0 j1 hV bV lV HT
    go_loopw [11] (fun iv wx => ∃ i9 : Nat, i9 ≤ 4 ∧ iv = .int .i64 (i9 : Int) ∧ Below V.heap.size V wx) (fun iv _ => 4 - (intOf iv).toNat)
    case atStart => exact ⟨0, by omega, rfl, Below.refl _ _⟩
    case round =>
     obtain ⟨i9, hi9, rfl, hX⟩ := hrel
     rename World => wx
     have HX := Lib.hid hX
     have NMX := Lib.hid (NMV.out.then hX)
     have HTX := Lib.hid ((HTV.out.keeps hX).more hX.size)
     have CX := Lib.hid (show wx.cell? ⟨wr.heap.size, 0, none⟩ = some (.int .u8 qr.kind) ∧ wx.cell? ⟨wr.heap.size, 1, none⟩ = some (.string (bs qr.dep.name)) ∧ wx.cell? ⟨wr.heap.size, 2, none⟩ = some (.int .u8 qr.dep.op) ∧ wx.cell? ⟨wr.heap.size, 3, none⟩ = some (.int .i64 qr.dep.evr.epoch) ∧ wx.cell? ⟨wr.heap.size, 4, none⟩ = some (.string (bs qr.dep.evr.ver)) ∧ wx.cell? ⟨wr.heap.size, 5, none⟩ = some (.string (bs qr.dep.evr.rel)) ∧ wx.cell? ⟨wr.heap.size, 6, none⟩ = some (.slice qr.addr qr.args.length qr.cap) ∧ wx.cell? ⟨wr.heap.size, 7, none⟩ = some (.string ⟨#[q0, q1, q2, q3]⟩) from ⟨(hX.cell (p := ⟨wr.heap.size, 0, none⟩) LV.out).trans CV.out.1, (hX.cell (p := ⟨wr.heap.size, 1, none⟩) LV.out).trans CV.out.2.1, (hX.cell (p := ⟨wr.heap.size, 2, none⟩) LV.out).trans CV.out.2.2.1, (hX.cell (p := ⟨wr.heap.size, 3, none⟩) LV.out).trans CV.out.2.2.2.1, (hX.cell (p := ⟨wr.heap.size, 4, none⟩) LV.out).trans CV.out.2.2.2.2.1, (hX.cell (p := ⟨wr.heap.size, 5, none⟩) LV.out).trans CV.out.2.2.2.2.2.1, (hX.cell (p := ⟨wr.heap.size, 6, none⟩) LV.out).trans CV.out.2.2.2.2.2.2.1, (hX.cell (p := ⟨wr.heap.size, 7, none⟩) LV.out).trans CV.out.2.2.2.2.2.2.2⟩)
     by_cases hlx : i9 < 4
     ·obtain rfl | rfl | rfl | rfl := (show i9 = 0 ∨ i9 = 1 ∨ i9 = 2 ∨ i9 = 3 by omega)
      ·obtain ⟨r, hr⟩ : ∃ r, (q0 == 49) = r := ⟨_, rfl⟩
       have HR9 := Lib.hid (show ((q0.toNat : Int) == 49) = r by rw [← hr]; exact u8_eq49 q0)
       have FS := Lib.hid (fun W (hb : Below wx.heap.size wx W) => nm_sat (NMX.out.then hb) HP.out none 0 [] (Rd.nil_ (Nat.zero_le _)) qr ((HTX.out.keeps hb).more hb.size) PT9.out ((LW.out 0 (by decide)).trans hr))
       unfold RV.val at FS
       clear hr hX hi9 hlx
       go_wp2_with fail
       refine wp_region_tail (PP := tn16 T (h0 + 1 + 1 + 1) wr.heap.size 0 0 none qr q0 q1 q2 q3 q0 r) 14 rfl (by kernel_rfl) (by kernel_rfl) (by decide) (by decide) (tn16_mono T (h0 + 1 + 1 + 1) wr.heap.size 0 0 none qr q0 q1 q2 q3 q0 r) (fun ii => match ii with | 0 => u169 | 1 => u170 | 2 => u171 | 3 => u172 | 4 => u173 | 5 => u174 | 6 => u175 | 7 => u176 | 8 => u177 | 9 => u178 | 10 => u179 | 11 => u180 | 12 => u181 | 13 => u182 | _ => undef) (by simp [fillV, put_someT, setIfInBounds_toArray, set_cons_zero, set_cons_succ]) ?_ ?_
       ·intro i o vs W hi ho he hBW K hK
        simp only [take_succ_cons, take_zero, fillV, put_someT, setIfInBounds_toArray, set_cons_zero, set_cons_succ] at hK ⊢
        have BW := Lib.hid hBW
        have NW := Lib.hid (NMX.out.then hBW)
        have CW := Lib.hid (show W.cell? ⟨wr.heap.size, 0, none⟩ = some (.int .u8 qr.kind) ∧ W.cell? ⟨wr.heap.size, 1, none⟩ = some (.string (bs qr.dep.name)) ∧ W.cell? ⟨wr.heap.size, 2, none⟩ = some (.int .u8 qr.dep.op) ∧ W.cell? ⟨wr.heap.size, 3, none⟩ = some (.int .i64 qr.dep.evr.epoch) ∧ W.cell? ⟨wr.heap.size, 4, none⟩ = some (.string (bs qr.dep.evr.ver)) ∧ W.cell? ⟨wr.heap.size, 5, none⟩ = some (.string (bs qr.dep.evr.rel)) ∧ W.cell? ⟨wr.heap.size, 6, none⟩ = some (.slice qr.addr qr.args.length qr.cap) ∧ W.cell? ⟨wr.heap.size, 7, none⟩ = some (.string ⟨#[q0, q1, q2, q3]⟩) from ⟨(hBW.cell (World.block_lt_of_cell? wx _ CX.out.1)).trans CX.out.1, (hBW.cell (World.block_lt_of_cell? wx _ CX.out.2.1)).trans CX.out.2.1, (hBW.cell (World.block_lt_of_cell? wx _ CX.out.2.2.1)).trans CX.out.2.2.1, (hBW.cell (World.block_lt_of_cell? wx _ CX.out.2.2.2.1)).trans CX.out.2.2.2.1, (hBW.cell (World.block_lt_of_cell? wx _ CX.out.2.2.2.2.1)).trans CX.out.2.2.2.2.1, (hBW.cell (World.block_lt_of_cell? wx _ CX.out.2.2.2.2.2.1)).trans CX.out.2.2.2.2.2.1, (hBW.cell (World.block_lt_of_cell? wx _ CX.out.2.2.2.2.2.2.1)).trans CX.out.2.2.2.2.2.2.1, (hBW.cell (World.block_lt_of_cell? wx _ CX.out.2.2.2.2.2.2.2)).trans CX.out.2.2.2.2.2.2.2⟩)
        obtain rfl | rfl | rfl | rfl | rfl | rfl | rfl | rfl | rfl | rfl | rfl | rfl | rfl | rfl := (show i = 0 ∨ i = 1 ∨ i = 2 ∨ i = 3 ∨ i = 4 ∨ i = 5 ∨ i = 6 ∨ i = 7 ∨ i = 8 ∨ i = 9 ∨ i = 10 ∨ i = 11 ∨ i = 12 ∨ i = 13 by exact (by have : i < 14 := hi; omega))
        ·simp only [getElem?_toArray, getElem?_cons_zero, getElem?_cons_succ, Option.some.injEq] at ho
         subst ho
         rw [if_pos (by rfl)]
         simp only [put_someT, setIfInBounds_toArray, set_cons_zero, set_cons_succ] at hK
         have HK := Lib.hid hK
         clear hK he hi hBW
         go_simp
         exact HK.out _ _ (by first | rfl | simp [tn16]) (Below.refl _ _)
        ·simp only [getElem?_toArray, getElem?_cons_zero, getElem?_cons_succ, Option.some.injEq] at ho
         subst ho
         rw [if_pos (by rfl)]
         simp only [put_someT, setIfInBounds_toArray, set_cons_zero, set_cons_succ] at hK
         have HK := Lib.hid hK
         clear hK he hi hBW
         go_simp
         exact HK.out _ _ (by first | rfl | simp [tn16]) (Below.refl _ _)
        ·simp only [getElem?_toArray, getElem?_cons_zero, getElem?_cons_succ, Option.some.injEq] at ho
         subst ho
         rw [if_pos (by rfl)]
         simp only [put_someT, setIfInBounds_toArray, set_cons_zero, set_cons_succ] at hK
         have HK := Lib.hid hK
         clear hK he hi hBW
         go_simp
         exact HK.out _ _ (by first | rfl | simp [tn16]) (Below.refl _ _)
        ·simp only [getElem?_toArray, getElem?_cons_zero, getElem?_cons_succ, Option.some.injEq] at ho
         subst ho
         have e1 : vs 1 = _ := he ⟨1, .data⟩ (by simp) rfl
         rw [e1] at hK ⊢
         have e2 : vs 2 = _ := he ⟨2, .data⟩ (by simp) rfl
         rw [e2] at hK ⊢
         rw [if_pos (by rfl)]
         simp only [put_someT, setIfInBounds_toArray, set_cons_zero, set_cons_succ] at hK
         have HK := Lib.hid hK
         clear hK he hi hBW
         go_simp
         exact HK.out _ _ (by simp [tn16]) (Below.refl _ _)
        ·simp only [getElem?_toArray, getElem?_cons_zero, getElem?_cons_succ, Option.some.injEq] at ho
         subst ho
         have e3 : vs 3 = _ := he ⟨3, .data⟩ (by simp) rfl
         rw [e3] at hK ⊢
         rw [if_pos (by rfl)]
         simp only [put_someT, setIfInBounds_toArray, set_cons_zero, set_cons_succ] at hK
         have HK := Lib.hid hK
         clear hK he hi hBW
         have cc := NW.out.sn.c0
         go_simp
         exact HK.out _ _ rfl (Below.refl _ _)
        ·simp only [getElem?_toArray, getElem?_cons_zero, getElem?_cons_succ, Option.some.injEq] at ho
         subst ho
         rw [if_pos (by rfl)]
         simp only [put_someT, setIfInBounds_toArray, set_cons_zero, set_cons_succ] at hK
         have HK := Lib.hid hK
         clear hK he hi hBW
         go_simp
         exact HK.out _ _ (by simp [tn16]) (Below.refl _ _)
        ·simp only [getElem?_toArray, getElem?_cons_zero, getElem?_cons_succ, Option.some.injEq] at ho
         subst ho
         have e5 : vs 5 = _ := he ⟨5, .data⟩ (by simp) rfl
         rw [e5] at hK ⊢
         rw [if_pos (by rfl)]
         simp only [put_someT, setIfInBounds_toArray, set_cons_zero, set_cons_succ] at hK
         have HK := Lib.hid hK
         clear hK he hi hBW
         obtain ⟨d0, d1, d2, d3, d4, d5, d6, d7⟩ := CW.out
         go_simp
         exact HK.out _ _ rfl (Below.refl _ _)
        ·simp only [getElem?_toArray, getElem?_cons_zero, getElem?_cons_succ, Option.some.injEq] at ho
         subst ho
         have e0 : vs 0 = _ := he ⟨0, .data⟩ (by simp) rfl
         rw [e0] at hK ⊢
         have e4 : vs 4 = _ := he ⟨4, .data⟩ (by simp) rfl
         rw [e4] at hK ⊢
         have e6 : vs 6 = _ := he ⟨6, .data⟩ (by simp) rfl
         rw [e6] at hK ⊢
         rw [if_pos (by rfl)]
         simp only [put_someT, setIfInBounds_toArray, set_cons_zero, set_cons_succ] at hK
         have HK := Lib.hid hK
         clear hK he hi hBW
         have FW := FS.out W BW.out
         go_simp
         go_at_call 40
         refine FW.mono ?_
         rintro en w9 ⟨rfl, h⟩
         go_simp
         exact HK.out _ _ rfl h
        ·simp only [getElem?_toArray, getElem?_cons_zero, getElem?_cons_succ, Option.some.injEq] at ho
         subst ho
         rw [if_pos (by rfl)]
         simp only [put_someT, setIfInBounds_toArray, set_cons_zero, set_cons_succ] at hK
         have HK := Lib.hid hK
         clear hK he hi hBW
         go_simp
         exact HK.out _ _ (by simp [tn16]) (Below.refl _ _)
        ·simp only [getElem?_toArray, getElem?_cons_zero, getElem?_cons_succ, Option.some.injEq] at ho
         subst ho
         have e8 : vs 8 = _ := he ⟨8, .data⟩ (by simp) rfl
         rw [e8] at hK ⊢
         rw [if_pos (by rfl)]
         simp only [put_someT, setIfInBounds_toArray, set_cons_zero, set_cons_succ] at hK
         have HK := Lib.hid hK
         clear hK he hi hBW
         obtain ⟨d0, d1, d2, d3, d4, d5, d6, d7⟩ := CW.out
         go_simp
         exact HK.out _ _ rfl (Below.refl _ _)
        ·simp only [getElem?_toArray, getElem?_cons_zero, getElem?_cons_succ, Option.some.injEq] at ho
         subst ho
         rw [if_pos (by rfl)]
         simp only [put_someT, setIfInBounds_toArray, set_cons_zero, set_cons_succ] at hK
         have HK := Lib.hid hK
         clear hK he hi hBW
         go_simp
         exact HK.out _ _ (by first | rfl | simp [tn16]) (Below.refl _ _)
        ·simp only [getElem?_toArray, getElem?_cons_zero, getElem?_cons_succ, Option.some.injEq] at ho
         subst ho
         have e9 : vs 9 = _ := he ⟨9, .data⟩ (by simp) rfl
         rw [e9] at hK ⊢
         have e10 : vs 10 = _ := he ⟨10, .data⟩ (by simp) rfl
         rw [e10] at hK ⊢
         rw [if_pos (by rfl)]
         simp only [put_someT, setIfInBounds_toArray, set_cons_zero, set_cons_succ] at hK
         have HK := Lib.hid hK
         clear hK he hi hBW
         go_simp
         exact HK.out _ _ (by first | rfl | simp [tn16]) (Below.refl _ _)
        ·simp only [getElem?_toArray, getElem?_cons_zero, getElem?_cons_succ, Option.some.injEq] at ho
         subst ho
         have e11 : vs 11 = _ := he ⟨11, .data⟩ (by simp) rfl
         rw [e11] at hK ⊢
         rw [if_pos (by rfl)]
         simp only [put_someT, setIfInBounds_toArray, set_cons_zero, set_cons_succ] at hK
         have HK := Lib.hid hK
         clear hK he hi hBW
         go_simp
         exact HK.out (.bool ((q0.toNat : Int) == 49)) _ (show Value.bool _ = .bool r by rw [HR9.out]) (Below.refl _ _)
        ·simp only [getElem?_toArray, getElem?_cons_zero, getElem?_cons_succ, Option.some.injEq] at ho
         subst ho
         have e7 : vs 7 = _ := he ⟨7, .data⟩ (by simp) rfl
         rw [e7] at hK ⊢
         have e12 : vs 12 = _ := he ⟨12, .data⟩ (by simp) rfl
         rw [e12] at hK ⊢
         rw [if_pos (by rfl)]
         simp only [put_someT, setIfInBounds_toArray, set_cons_zero, set_cons_succ] at hK
         have HK := Lib.hid hK
         clear hK he hi hBW
         go_simp
         exact HK.out _ _ (by simp [tn16]) (Below.refl _ _)
       ·intro vs W9 hall hBW
        have eo : vs 13 = .bool false := hall 13 (by decide)
        simp only [take_succ_cons, take_zero, List.drop_succ_cons, List.drop_zero, fillV, put_someT, put_noneC, setIfInBounds_toArray, set_cons_zero, set_cons_succ]
        rw [eo]
        generalize vs 0 = q09
        generalize vs 1 = q19
        generalize vs 2 = q29
        generalize vs 3 = q39
        generalize vs 4 = q49
        generalize vs 5 = q59
        generalize vs 6 = q69
        generalize vs 7 = q79
        generalize vs 8 = q89
        generalize vs 9 = q99
        generalize vs 10 = q109
        generalize vs 11 = q119
        generalize vs 12 = q129
        have B9 := Lib.hid (HX.out.trans (hBW.mono HX.out.size))
        clear hall hBW eo
        go_wp2_with fail
        go_roundw
        case rel => exact ⟨1, by omega, by go_num, B9.out⟩
        case measure => simp [intOf]
      ·obtain ⟨r, hr⟩ : ∃ r, (q1 == 49) = r := ⟨_, rfl⟩
       have HR9 := Lib.hid (show ((q1.toNat : Int) == 49) = r by rw [← hr]; exact u8_eq49 q1)
       have FS := Lib.hid (fun W (hb : Below wx.heap.size wx W) => nm_sat (NMX.out.then hb) HP.out (some ⟨h0, 0, none⟩) 1 [0] ((NMX.out.then hb).sn.r1) qr ((HTX.out.keeps hb).more hb.size) PT9.out ((LW.out 1 (by decide)).trans hr))
       unfold RV.val at FS
       clear hr hX hi9 hlx
       go_wp2_with fail
       refine wp_region_tail (PP := tn16 T (h0 + 1 + 1 + 1) wr.heap.size 1 1 (some ⟨h0, 0, none⟩) qr q0 q1 q2 q3 q1 r) 14 rfl (by kernel_rfl) (by kernel_rfl) (by decide) (by decide) (tn16_mono T (h0 + 1 + 1 + 1) wr.heap.size 1 1 (some ⟨h0, 0, none⟩) qr q0 q1 q2 q3 q1 r) (fun ii => match ii with | 0 => u169 | 1 => u170 | 2 => u171 | 3 => u172 | 4 => u173 | 5 => u174 | 6 => u175 | 7 => u176 | 8 => u177 | 9 => u178 | 10 => u179 | 11 => u180 | 12 => u181 | 13 => u182 | _ => undef) (by simp [fillV, put_someT, setIfInBounds_toArray, set_cons_zero, set_cons_succ]) ?_ ?_
       ·intro i o vs W hi ho he hBW K hK
        simp only [take_succ_cons, take_zero, fillV, put_someT, setIfInBounds_toArray, set_cons_zero, set_cons_succ] at hK ⊢
        have BW := Lib.hid hBW
        have NW := Lib.hid (NMX.out.then hBW)
        have CW := Lib.hid (show W.cell? ⟨wr.heap.size, 0, none⟩ = some (.int .u8 qr.kind) ∧ W.cell? ⟨wr.heap.size, 1, none⟩ = some (.string (bs qr.dep.name)) ∧ W.cell? ⟨wr.heap.size, 2, none⟩ = some (.int .u8 qr.dep.op) ∧ W.cell? ⟨wr.heap.size, 3, none⟩ = some (.int .i64 qr.dep.evr.epoch) ∧ W.cell? ⟨wr.heap.size, 4, none⟩ = some (.string (bs qr.dep.evr.ver)) ∧ W.cell? ⟨wr.heap.size, 5, none⟩ = some (.string (bs qr.dep.evr.rel)) ∧ W.cell? ⟨wr.heap.size, 6, none⟩ = some (.slice qr.addr qr.args.length qr.cap) ∧ W.cell? ⟨wr.heap.size, 7, none⟩ = some (.string ⟨#[q0, q1, q2, q3]⟩) from ⟨(hBW.cell (World.block_lt_of_cell? wx _ CX.out.1)).trans CX.out.1, (hBW.cell (World.block_lt_of_cell? wx _ CX.out.2.1)).trans CX.out.2.1, (hBW.cell (World.block_lt_of_cell? wx _ CX.out.2.2.1)).trans CX.out.2.2.1, (hBW.cell (World.block_lt_of_cell? wx _ CX.out.2.2.2.1)).trans CX.out.2.2.2.1, (hBW.cell (World.block_lt_of_cell? wx _ CX.out.2.2.2.2.1)).trans CX.out.2.2.2.2.1, (hBW.cell (World.block_lt_of_cell? wx _ CX.out.2.2.2.2.2.1)).trans CX.out.2.2.2.2.2.1, (hBW.cell (World.block_lt_of_cell? wx _ CX.out.2.2.2.2.2.2.1)).trans CX.out.2.2.2.2.2.2.1, (hBW.cell (World.block_lt_of_cell? wx _ CX.out.2.2.2.2.2.2.2)).trans CX.out.2.2.2.2.2.2.2⟩)
        obtain rfl | rfl | rfl | rfl | rfl | rfl | rfl | rfl | rfl | rfl | rfl | rfl | rfl | rfl := (show i = 0 ∨ i = 1 ∨ i = 2 ∨ i = 3 ∨ i = 4 ∨ i = 5 ∨ i = 6 ∨ i = 7 ∨ i = 8 ∨ i = 9 ∨ i = 10 ∨ i = 11 ∨ i = 12 ∨ i = 13 by exact (by have : i < 14 := hi; omega))
        ·simp only [getElem?_toArray, getElem?_cons_zero, getElem?_cons_succ, Option.some.injEq] at ho
         subst ho
         rw [if_pos (by rfl)]
         simp only [put_someT, setIfInBounds_toArray, set_cons_zero, set_cons_succ] at hK
         have HK := Lib.hid hK
         clear hK he hi hBW
         go_simp
         exact HK.out _ _ (by first | rfl | simp [tn16]) (Below.refl _ _)
        ·simp only [getElem?_toArray, getElem?_cons_zero, getElem?_cons_succ, Option.some.injEq] at ho
         subst ho
         rw [if_pos (by rfl)]
         simp only [put_someT, setIfInBounds_toArray, set_cons_zero, set_cons_succ] at hK
         have HK := Lib.hid hK
         clear hK he hi hBW
         go_simp
         exact HK.out _ _ (by first | rfl | simp [tn16]) (Below.refl _ _)
        ·simp only [getElem?_toArray, getElem?_cons_zero, getElem?_cons_succ, Option.some.injEq] at ho
         subst ho
         rw [if_pos (by rfl)]
         simp only [put_someT, setIfInBounds_toArray, set_cons_zero, set_cons_succ] at hK
         have HK := Lib.hid hK
         clear hK he hi hBW
         go_simp
         exact HK.out _ _ (by first | rfl | simp [tn16]) (Below.refl _ _)
        ·simp only [getElem?_toArray, getElem?_cons_zero, getElem?_cons_succ, Option.some.injEq] at ho
         subst ho
         have e1 : vs 1 = _ := he ⟨1, .data⟩ (by simp) rfl
         rw [e1] at hK ⊢
         have e2 : vs 2 = _ := he ⟨2, .data⟩ (by simp) rfl
         rw [e2] at hK ⊢
         rw [if_pos (by rfl)]
         simp only [put_someT, setIfInBounds_toArray, set_cons_zero, set_cons_succ] at hK
         have HK := Lib.hid hK
         clear hK he hi hBW
         go_simp
         exact HK.out _ _ (by simp [tn16]) (Below.refl _ _)
        ·simp only [getElem?_toArray, getElem?_cons_zero, getElem?_cons_succ, Option.some.injEq] at ho
         subst ho
         have e3 : vs 3 = _ := he ⟨3, .data⟩ (by simp) rfl
         rw [e3] at hK ⊢
         rw [if_pos (by rfl)]
         simp only [put_someT, setIfInBounds_toArray, set_cons_zero, set_cons_succ] at hK
         have HK := Lib.hid hK
         clear hK he hi hBW
         have cc := NW.out.sn.c1
         go_simp
         exact HK.out _ _ rfl (Below.refl _ _)
        ·simp only [getElem?_toArray, getElem?_cons_zero, getElem?_cons_succ, Option.some.injEq] at ho
         subst ho
         rw [if_pos (by rfl)]
         simp only [put_someT, setIfInBounds_toArray, set_cons_zero, set_cons_succ] at hK
         have HK := Lib.hid hK
         clear hK he hi hBW
         go_simp
         exact HK.out _ _ (by simp [tn16]) (Below.refl _ _)
        ·simp only [getElem?_toArray, getElem?_cons_zero, getElem?_cons_succ, Option.some.injEq] at ho
         subst ho
         have e5 : vs 5 = _ := he ⟨5, .data⟩ (by simp) rfl
         rw [e5] at hK ⊢
         rw [if_pos (by rfl)]
         simp only [put_someT, setIfInBounds_toArray, set_cons_zero, set_cons_succ] at hK
         have HK := Lib.hid hK
         clear hK he hi hBW
         obtain ⟨d0, d1, d2, d3, d4, d5, d6, d7⟩ := CW.out
         go_simp
         exact HK.out _ _ rfl (Below.refl _ _)
        ·simp only [getElem?_toArray, getElem?_cons_zero, getElem?_cons_succ, Option.some.injEq] at ho
         subst ho
         have e0 : vs 0 = _ := he ⟨0, .data⟩ (by simp) rfl
         rw [e0] at hK ⊢
         have e4 : vs 4 = _ := he ⟨4, .data⟩ (by simp) rfl
         rw [e4] at hK ⊢
         have e6 : vs 6 = _ := he ⟨6, .data⟩ (by simp) rfl
         rw [e6] at hK ⊢
         rw [if_pos (by rfl)]
         simp only [put_someT, setIfInBounds_toArray, set_cons_zero, set_cons_succ] at hK
         have HK := Lib.hid hK
         clear hK he hi hBW
         have FW := FS.out W BW.out
         go_simp
         go_at_call 40
         refine FW.mono ?_
         rintro en w9 ⟨rfl, h⟩
         go_simp
         exact HK.out _ _ rfl h
        ·simp only [getElem?_toArray, getElem?_cons_zero, getElem?_cons_succ, Option.some.injEq] at ho
         subst ho
         rw [if_pos (by rfl)]
         simp only [put_someT, setIfInBounds_toArray, set_cons_zero, set_cons_succ] at hK
         have HK := Lib.hid hK
         clear hK he hi hBW
         go_simp
         exact HK.out _ _ (by simp [tn16]) (Below.refl _ _)
        ·simp only [getElem?_toArray, getElem?_cons_zero, getElem?_cons_succ, Option.some.injEq] at ho
         subst ho
         have e8 : vs 8 = _ := he ⟨8, .data⟩ (by simp) rfl
         rw [e8] at hK ⊢
         rw [if_pos (by rfl)]
         simp only [put_someT, setIfInBounds_toArray, set_cons_zero, set_cons_succ] at hK
         have HK := Lib.hid hK
         clear hK he hi hBW
         obtain ⟨d0, d1, d2, d3, d4, d5, d6, d7⟩ := CW.out
         go_simp
         exact HK.out _ _ rfl (Below.refl _ _)
        ·simp only [getElem?_toArray, getElem?_cons_zero, getElem?_cons_succ, Option.some.injEq] at ho
         subst ho
         rw [if_pos (by rfl)]
         simp only [put_someT, setIfInBounds_toArray, set_cons_zero, set_cons_succ] at hK
         have HK := Lib.hid hK
         clear hK he hi hBW
         go_simp
         exact HK.out _ _ (by first | rfl | simp [tn16]) (Below.refl _ _)
        ·simp only [getElem?_toArray, getElem?_cons_zero, getElem?_cons_succ, Option.some.injEq] at ho
         subst ho
         have e9 : vs 9 = _ := he ⟨9, .data⟩ (by simp) rfl
         rw [e9] at hK ⊢
         have e10 : vs 10 = _ := he ⟨10, .data⟩ (by simp) rfl
         rw [e10] at hK ⊢
         rw [if_pos (by rfl)]
         simp only [put_someT, setIfInBounds_toArray, set_cons_zero, set_cons_succ] at hK
         have HK := Lib.hid hK
         clear hK he hi hBW
         go_simp
         exact HK.out _ _ (by first | rfl | simp [tn16]) (Below.refl _ _)
        ·simp only [getElem?_toArray, getElem?_cons_zero, getElem?_cons_succ, Option.some.injEq] at ho
         subst ho
         have e11 : vs 11 = _ := he ⟨11, .data⟩ (by simp) rfl
         rw [e11] at hK ⊢
         rw [if_pos (by rfl)]
         simp only [put_someT, setIfInBounds_toArray, set_cons_zero, set_cons_succ] at hK
         have HK := Lib.hid hK
         clear hK he hi hBW
         go_simp
         exact HK.out (.bool ((q1.toNat : Int) == 49)) _ (show Value.bool _ = .bool r by rw [HR9.out]) (Below.refl _ _)
        ·simp only [getElem?_toArray, getElem?_cons_zero, getElem?_cons_succ, Option.some.injEq] at ho
         subst ho
         have e7 : vs 7 = _ := he ⟨7, .data⟩ (by simp) rfl
         rw [e7] at hK ⊢
         have e12 : vs 12 = _ := he ⟨12, .data⟩ (by simp) rfl
         rw [e12] at hK ⊢
         rw [if_pos (by rfl)]
         simp only [put_someT, setIfInBounds_toArray, set_cons_zero, set_cons_succ] at hK
         have HK := Lib.hid hK
         clear hK he hi hBW
         go_simp
         exact HK.out _ _ (by simp [tn16]) (Below.refl _ _)
       ·intro vs W9 hall hBW
        have eo : vs 13 = .bool false := hall 13 (by decide)
        simp only [take_succ_cons, take_zero, List.drop_succ_cons, List.drop_zero, fillV, put_someT, put_noneC, setIfInBounds_toArray, set_cons_zero, set_cons_succ]
        rw [eo]
        generalize vs 0 = q09
        generalize vs 1 = q19
        generalize vs 2 = q29
        generalize vs 3 = q39
        generalize vs 4 = q49
        generalize vs 5 = q59
        generalize vs 6 = q69
        generalize vs 7 = q79
        generalize vs 8 = q89
        generalize vs 9 = q99
        generalize vs 10 = q109
        generalize vs 11 = q119
        generalize vs 12 = q129
        have B9 := Lib.hid (HX.out.trans (hBW.mono HX.out.size))
        clear hall hBW eo
        go_wp2_with fail
        go_roundw
        case rel => exact ⟨2, by omega, by go_num, B9.out⟩
        case measure => simp [intOf]
      ·obtain ⟨r, hr⟩ : ∃ r, (q2 == 49) = r := ⟨_, rfl⟩
       have HR9 := Lib.hid (show ((q2.toNat : Int) == 49) = r by rw [← hr]; exact u8_eq49 q2)
       have FS := Lib.hid (fun W (hb : Below wx.heap.size wx W) => nm_sat (NMX.out.then hb) HP.out (some ⟨h0 + 1, 0, none⟩) 1 [1] ((NMX.out.then hb).sn.r2) qr ((HTX.out.keeps hb).more hb.size) PT9.out ((LW.out 2 (by decide)).trans hr))
       unfold RV.val at FS
       clear hr hX hi9 hlx
       go_wp2_with fail
       refine wp_region_tail (PP := tn16 T (h0 + 1 + 1 + 1) wr.heap.size 2 1 (some ⟨h0 + 1, 0, none⟩) qr q0 q1 q2 q3 q2 r) 14 rfl (by kernel_rfl) (by kernel_rfl) (by decide) (by decide) (tn16_mono T (h0 + 1 + 1 + 1) wr.heap.size 2 1 (some ⟨h0 + 1, 0, none⟩) qr q0 q1 q2 q3 q2 r) (fun ii => match ii with | 0 => u169 | 1 => u170 | 2 => u171 | 3 => u172 | 4 => u173 | 5 => u174 | 6 => u175 | 7 => u176 | 8 => u177 | 9 => u178 | 10 => u179 | 11 => u180 | 12 => u181 | 13 => u182 | _ => undef) (by simp [fillV, put_someT, setIfInBounds_toArray, set_cons_zero, set_cons_succ]) ?_ ?_
       ·intro i o vs W hi ho he hBW K hK
        simp only [take_succ_cons, take_zero, fillV, put_someT, setIfInBounds_toArray, set_cons_zero, set_cons_succ] at hK ⊢
        have BW := Lib.hid hBW
        have NW := Lib.hid (NMX.out.then hBW)
        have CW := Lib.hid (show W.cell? ⟨wr.heap.size, 0, none⟩ = some (.int .u8 qr.kind) ∧ W.cell? ⟨wr.heap.size, 1, none⟩ = some (.string (bs qr.dep.name)) ∧ W.cell? ⟨wr.heap.size, 2, none⟩ = some (.int .u8 qr.dep.op) ∧ W.cell? ⟨wr.heap.size, 3, none⟩ = some (.int .i64 qr.dep.evr.epoch) ∧ W.cell? ⟨wr.heap.size, 4, none⟩ = some (.string (bs qr.dep.evr.ver)) ∧ W.cell? ⟨wr.heap.size, 5, none⟩ = some (.string (bs qr.dep.evr.rel)) ∧ W.cell? ⟨wr.heap.size, 6, none⟩ = some (.slice qr.addr qr.args.length qr.cap) ∧ W.cell? ⟨wr.heap.size, 7, none⟩ = some (.string ⟨#[q0, q1, q2, q3]⟩) from ⟨(hBW.cell (World.block_lt_of_cell? wx _ CX.out.1)).trans CX.out.1, (hBW.cell (World.block_lt_of_cell? wx _ CX.out.2.1)).trans CX.out.2.1, (hBW.cell (World.block_lt_of_cell? wx _ CX.out.2.2.1)).trans CX.out.2.2.1, (hBW.cell (World.block_lt_of_cell? wx _ CX.out.2.2.2.1)).trans CX.out.2.2.2.1, (hBW.cell (World.block_lt_of_cell? wx _ CX.out.2.2.2.2.1)).trans CX.out.2.2.2.2.1, (hBW.cell (World.block_lt_of_cell? wx _ CX.out.2.2.2.2.2.1)).trans CX.out.2.2.2.2.2.1, (hBW.cell (World.block_lt_of_cell? wx _ CX.out.2.2.2.2.2.2.1)).trans CX.out.2.2.2.2.2.2.1, (hBW.cell (World.block_lt_of_cell? wx _ CX.out.2.2.2.2.2.2.2)).trans CX.out.2.2.2.2.2.2.2⟩)
        obtain rfl | rfl | rfl | rfl | rfl | rfl | rfl | rfl | rfl | rfl | rfl | rfl | rfl | rfl := (show i = 0 ∨ i = 1 ∨ i = 2 ∨ i = 3 ∨ i = 4 ∨ i = 5 ∨ i = 6 ∨ i = 7 ∨ i = 8 ∨ i = 9 ∨ i = 10 ∨ i = 11 ∨ i = 12 ∨ i = 13 by exact (by have : i < 14 := hi; omega))
        ·simp only [getElem?_toArray, getElem?_cons_zero, getElem?_cons_succ, Option.some.injEq] at ho
         subst ho
         rw [if_pos (by rfl)]
         simp only [put_someT, setIfInBounds_toArray, set_cons_zero, set_cons_succ] at hK
         have HK := Lib.hid hK
         clear hK he hi hBW
         go_simp
         exact HK.out _ _ (by first | rfl | simp [tn16]) (Below.refl _ _)
        ·simp only [getElem?_toArray, getElem?_cons_zero, getElem?_cons_succ, Option.some.injEq] at ho
         subst ho
         rw [if_pos (by rfl)]
         simp only [put_someT, setIfInBounds_toArray, set_cons_zero, set_cons_succ] at hK
         have HK := Lib.hid hK
         clear hK he hi hBW
         go_simp
         exact HK.out _ _ (by first | rfl | simp [tn16]) (Below.refl _ _)
        ·simp only [getElem?_toArray, getElem?_cons_zero, getElem?_cons_succ, Option.some.injEq] at ho
         subst ho
         rw [if_pos (by rfl)]
         simp only [put_someT, setIfInBounds_toArray, set_cons_zero, set_cons_succ] at hK
         have HK := Lib.hid hK
         clear hK he hi hBW
         go_simp
         exact HK.out _ _ (by first | rfl | simp [tn16]) (Below.refl _ _)
        ·simp only [getElem?_toArray, getElem?_cons_zero, getElem?_cons_succ, Option.some.injEq] at ho
         subst ho
         have e1 : vs 1 = _ := he ⟨1, .data⟩ (by simp) rfl
         rw [e1] at hK ⊢
         have e2 : vs 2 = _ := he ⟨2, .data⟩ (by simp) rfl
         rw [e2] at hK ⊢
         rw [if_pos (by rfl)]
         simp only [put_someT, setIfInBounds_toArray, set_cons_zero, set_cons_succ] at hK
         have HK := Lib.hid hK
         clear hK he hi hBW
         go_simp
         exact HK.out _ _ (by simp [tn16]) (Below.refl _ _)
        ·simp only [getElem?_toArray, getElem?_cons_zero, getElem?_cons_succ, Option.some.injEq] at ho
         subst ho
         have e3 : vs 3 = _ := he ⟨3, .data⟩ (by simp) rfl
         rw [e3] at hK ⊢
         rw [if_pos (by rfl)]
         simp only [put_someT, setIfInBounds_toArray, set_cons_zero, set_cons_succ] at hK
         have HK := Lib.hid hK
         clear hK he hi hBW
         have cc := NW.out.sn.c2
         go_simp
         exact HK.out _ _ rfl (Below.refl _ _)
        ·simp only [getElem?_toArray, getElem?_cons_zero, getElem?_cons_succ, Option.some.injEq] at ho
         subst ho
         rw [if_pos (by rfl)]
         simp only [put_someT, setIfInBounds_toArray, set_cons_zero, set_cons_succ] at hK
         have HK := Lib.hid hK
         clear hK he hi hBW
         go_simp
         exact HK.out _ _ (by simp [tn16]) (Below.refl _ _)
        ·simp only [getElem?_toArray, getElem?_cons_zero, getElem?_cons_succ, Option.some.injEq] at ho
         subst ho
         have e5 : vs 5 = _ := he ⟨5, .data⟩ (by simp) rfl
         rw [e5] at hK ⊢
         rw [if_pos (by rfl)]
         simp only [put_someT, setIfInBounds_toArray, set_cons_zero, set_cons_succ] at hK
         have HK := Lib.hid hK
         clear hK he hi hBW
         obtain ⟨d0, d1, d2, d3, d4, d5, d6, d7⟩ := CW.out
         go_simp
         exact HK.out _ _ rfl (Below.refl _ _)
        ·simp only [getElem?_toArray, getElem?_cons_zero, getElem?_cons_succ, Option.some.injEq] at ho
         subst ho
         have e0 : vs 0 = _ := he ⟨0, .data⟩ (by simp) rfl
         rw [e0] at hK ⊢
         have e4 : vs 4 = _ := he ⟨4, .data⟩ (by simp) rfl
         rw [e4] at hK ⊢
         have e6 : vs 6 = _ := he ⟨6, .data⟩ (by simp) rfl
         rw [e6] at hK ⊢
         rw [if_pos (by rfl)]
         simp only [put_someT, setIfInBounds_toArray, set_cons_zero, set_cons_succ] at hK
         have HK := Lib.hid hK
         clear hK he hi hBW
         have FW := FS.out W BW.out
         go_simp
         go_at_call 40
         refine FW.mono ?_
         rintro en w9 ⟨rfl, h⟩
         go_simp
         exact HK.out _ _ rfl h
        ·simp only [getElem?_toArray, getElem?_cons_zero, getElem?_cons_succ, Option.some.injEq] at ho
         subst ho
         rw [if_pos (by rfl)]
         simp only [put_someT, setIfInBounds_toArray, set_cons_zero, set_cons_succ] at hK
         have HK := Lib.hid hK
         clear hK he hi hBW
         go_simp
         exact HK.out _ _ (by simp [tn16]) (Below.refl _ _)
        ·simp only [getElem?_toArray, getElem?_cons_zero, getElem?_cons_succ, Option.some.injEq] at ho
         subst ho
         have e8 : vs 8 = _ := he ⟨8, .data⟩ (by simp) rfl
         rw [e8] at hK ⊢
         rw [if_pos (by rfl)]
         simp only [put_someT, setIfInBounds_toArray, set_cons_zero, set_cons_succ] at hK
         have HK := Lib.hid hK
         clear hK he hi hBW
         obtain ⟨d0, d1, d2, d3, d4, d5, d6, d7⟩ := CW.out
         go_simp
         exact HK.out _ _ rfl (Below.refl _ _)
        ·simp only [getElem?_toArray, getElem?_cons_zero, getElem?_cons_succ, Option.some.injEq] at ho
         subst ho
         rw [if_pos (by rfl)]
         simp only [put_someT, setIfInBounds_toArray, set_cons_zero, set_cons_succ] at hK
         have HK := Lib.hid hK
         clear hK he hi hBW
         go_simp
         exact HK.out _ _ (by first | rfl | simp [tn16]) (Below.refl _ _)
        ·simp only [getElem?_toArray, getElem?_cons_zero, getElem?_cons_succ, Option.some.injEq] at ho
         subst ho
         have e9 : vs 9 = _ := he ⟨9, .data⟩ (by simp) rfl
         rw [e9] at hK ⊢
         have e10 : vs 10 = _ := he ⟨10, .data⟩ (by simp) rfl
         rw [e10] at hK ⊢
         rw [if_pos (by rfl)]
         simp only [put_someT, setIfInBounds_toArray, set_cons_zero, set_cons_succ] at hK
         have HK := Lib.hid hK
         clear hK he hi hBW
         go_simp
         exact HK.out _ _ (by first | rfl | simp [tn16]) (Below.refl _ _)
        ·simp only [getElem?_toArray, getElem?_cons_zero, getElem?_cons_succ, Option.some.injEq] at ho
         subst ho
         have e11 : vs 11 = _ := he ⟨11, .data⟩ (by simp) rfl
         rw [e11] at hK ⊢
         rw [if_pos (by rfl)]
         simp only [put_someT, setIfInBounds_toArray, set_cons_zero, set_cons_succ] at hK
         have HK := Lib.hid hK
         clear hK he hi hBW
         go_simp
         exact HK.out (.bool ((q2.toNat : Int) == 49)) _ (show Value.bool _ = .bool r by rw [HR9.out]) (Below.refl _ _)
        ·simp only [getElem?_toArray, getElem?_cons_zero, getElem?_cons_succ, Option.some.injEq] at ho
         subst ho
         have e7 : vs 7 = _ := he ⟨7, .data⟩ (by simp) rfl
         rw [e7] at hK ⊢
         have e12 : vs 12 = _ := he ⟨12, .data⟩ (by simp) rfl
         rw [e12] at hK ⊢
         rw [if_pos (by rfl)]
         simp only [put_someT, setIfInBounds_toArray, set_cons_zero, set_cons_succ] at hK
         have HK := Lib.hid hK
         clear hK he hi hBW
         go_simp
         exact HK.out _ _ (by simp [tn16]) (Below.refl _ _)
       ·intro vs W9 hall hBW
        have eo : vs 13 = .bool false := hall 13 (by decide)
        simp only [take_succ_cons, take_zero, List.drop_succ_cons, List.drop_zero, fillV, put_someT, put_noneC, setIfInBounds_toArray, set_cons_zero, set_cons_succ]
        rw [eo]
        generalize vs 0 = q09
        generalize vs 1 = q19
        generalize vs 2 = q29
        generalize vs 3 = q39
        generalize vs 4 = q49
        generalize vs 5 = q59
        generalize vs 6 = q69
        generalize vs 7 = q79
        generalize vs 8 = q89
        generalize vs 9 = q99
        generalize vs 10 = q109
        generalize vs 11 = q119
        generalize vs 12 = q129
        have B9 := Lib.hid (HX.out.trans (hBW.mono HX.out.size))
        clear hall hBW eo
        go_wp2_with fail
        go_roundw
        case rel => exact ⟨3, by omega, by go_num, B9.out⟩
        case measure => simp [intOf]
      ·obtain ⟨r, hr⟩ : ∃ r, (q3 == 49) = r := ⟨_, rfl⟩
       have HR9 := Lib.hid (show ((q3.toNat : Int) == 49) = r by rw [← hr]; exact u8_eq49 q3)
       have FS := Lib.hid (fun W (hb : Below wx.heap.size wx W) => nm_sat (NMX.out.then hb) HP.out (some ⟨h0 + 1 + 1, 0, none⟩) 2 [1, 0] ((NMX.out.then hb).sn.r3) qr ((HTX.out.keeps hb).more hb.size) PT9.out ((LW.out 3 (by decide)).trans hr))
       unfold RV.val at FS
       clear hr hX hi9 hlx
       go_wp2_with fail
       refine wp_region_tail (PP := tn16 T (h0 + 1 + 1 + 1) wr.heap.size 3 2 (some ⟨h0 + 1 + 1, 0, none⟩) qr q0 q1 q2 q3 q3 r) 14 rfl (by kernel_rfl) (by kernel_rfl) (by decide) (by decide) (tn16_mono T (h0 + 1 + 1 + 1) wr.heap.size 3 2 (some ⟨h0 + 1 + 1, 0, none⟩) qr q0 q1 q2 q3 q3 r) (fun ii => match ii with | 0 => u169 | 1 => u170 | 2 => u171 | 3 => u172 | 4 => u173 | 5 => u174 | 6 => u175 | 7 => u176 | 8 => u177 | 9 => u178 | 10 => u179 | 11 => u180 | 12 => u181 | 13 => u182 | _ => undef) (by simp [fillV, put_someT, setIfInBounds_toArray, set_cons_zero, set_cons_succ]) ?_ ?_
       ·intro i o vs W hi ho he hBW K hK
        simp only [take_succ_cons, take_zero, fillV, put_someT, setIfInBounds_toArray, set_cons_zero, set_cons_succ] at hK ⊢
        have BW := Lib.hid hBW
        have NW := Lib.hid (NMX.out.then hBW)
        have CW := Lib.hid (show W.cell? ⟨wr.heap.size, 0, none⟩ = some (.int .u8 qr.kind) ∧ W.cell? ⟨wr.heap.size, 1, none⟩ = some (.string (bs qr.dep.name)) ∧ W.cell? ⟨wr.heap.size, 2, none⟩ = some (.int .u8 qr.dep.op) ∧ W.cell? ⟨wr.heap.size, 3, none⟩ = some (.int .i64 qr.dep.evr.epoch) ∧ W.cell? ⟨wr.heap.size, 4, none⟩ = some (.string (bs qr.dep.evr.ver)) ∧ W.cell? ⟨wr.heap.size, 5, none⟩ = some (.string (bs qr.dep.evr.rel)) ∧ W.cell? ⟨wr.heap.size, 6, none⟩ = some (.slice qr.addr qr.args.length qr.cap) ∧ W.cell? ⟨wr.heap.size, 7, none⟩ = some (.string ⟨#[q0, q1, q2, q3]⟩) from ⟨(hBW.cell (World.block_lt_of_cell? wx _ CX.out.1)).trans CX.out.1, (hBW.cell (World.block_lt_of_cell? wx _ CX.out.2.1)).trans CX.out.2.1, (hBW.cell (World.block_lt_of_cell? wx _ CX.out.2.2.1)).trans CX.out.2.2.1, (hBW.cell (World.block_lt_of_cell? wx _ CX.out.2.2.2.1)).trans CX.out.2.2.2.1, (hBW.cell (World.block_lt_of_cell? wx _ CX.out.2.2.2.2.1)).trans CX.out.2.2.2.2.1, (hBW.cell (World.block_lt_of_cell? wx _ CX.out.2.2.2.2.2.1)).trans CX.out.2.2.2.2.2.1, (hBW.cell (World.block_lt_of_cell? wx _ CX.out.2.2.2.2.2.2.1)).trans CX.out.2.2.2.2.2.2.1, (hBW.cell (World.block_lt_of_cell? wx _ CX.out.2.2.2.2.2.2.2)).trans CX.out.2.2.2.2.2.2.2⟩)
        obtain rfl | rfl | rfl | rfl | rfl | rfl | rfl | rfl | rfl | rfl | rfl | rfl | rfl | rfl := (show i = 0 ∨ i = 1 ∨ i = 2 ∨ i = 3 ∨ i = 4 ∨ i = 5 ∨ i = 6 ∨ i = 7 ∨ i = 8 ∨ i = 9 ∨ i = 10 ∨ i = 11 ∨ i = 12 ∨ i = 13 by exact (by have : i < 14 := hi; omega))
        ·simp only [getElem?_toArray, getElem?_cons_zero, getElem?_cons_succ, Option.some.injEq] at ho
         subst ho
         rw [if_pos (by rfl)]
         simp only [put_someT, setIfInBounds_toArray, set_cons_zero, set_cons_succ] at hK
         have HK := Lib.hid hK
         clear hK he hi hBW
         go_simp
         exact HK.out _ _ (by first | rfl | simp [tn16]) (Below.refl _ _)
        ·simp only [getElem?_toArray, getElem?_cons_zero, getElem?_cons_succ, Option.some.injEq] at ho
         subst ho
         rw [if_pos (by rfl)]
         simp only [put_someT, setIfInBounds_toArray, set_cons_zero, set_cons_succ] at hK
         have HK := Lib.hid hK
         clear hK he hi hBW
         go_simp
         exact HK.out _ _ (by first | rfl | simp [tn16]) (Below.refl _ _)
        ·simp only [getElem?_toArray, getElem?_cons_zero, getElem?_cons_succ, Option.some.injEq] at ho
         subst ho
         rw [if_pos (by rfl)]
         simp only [put_someT, setIfInBounds_toArray, set_cons_zero, set_cons_succ] at hK
         have HK := Lib.hid hK
         clear hK he hi hBW
         go_simp
         exact HK.out _ _ (by first | rfl | simp [tn16]) (Below.refl _ _)
        ·simp only [getElem?_toArray, getElem?_cons_zero, getElem?_cons_succ, Option.some.injEq] at ho
         subst ho
         have e1 : vs 1 = _ := he ⟨1, .data⟩ (by simp) rfl
         rw [e1] at hK ⊢
         have e2 : vs 2 = _ := he ⟨2, .data⟩ (by simp) rfl
         rw [e2] at hK ⊢
         rw [if_pos (by rfl)]
         simp only [put_someT, setIfInBounds_toArray, set_cons_zero, set_cons_succ] at hK
         have HK := Lib.hid hK
         clear hK he hi hBW
         go_simp
         exact HK.out _ _ (by simp [tn16]) (Below.refl _ _)
        ·simp only [getElem?_toArray, getElem?_cons_zero, getElem?_cons_succ, Option.some.injEq] at ho
         subst ho
         have e3 : vs 3 = _ := he ⟨3, .data⟩ (by simp) rfl
         rw [e3] at hK ⊢
         rw [if_pos (by rfl)]
         simp only [put_someT, setIfInBounds_toArray, set_cons_zero, set_cons_succ] at hK
         have HK := Lib.hid hK
         clear hK he hi hBW
         have cc := NW.out.sn.c3
         go_simp
         exact HK.out _ _ rfl (Below.refl _ _)
        ·simp only [getElem?_toArray, getElem?_cons_zero, getElem?_cons_succ, Option.some.injEq] at ho
         subst ho
         rw [if_pos (by rfl)]
         simp only [put_someT, setIfInBounds_toArray, set_cons_zero, set_cons_succ] at hK
         have HK := Lib.hid hK
         clear hK he hi hBW
         go_simp
         exact HK.out _ _ (by simp [tn16]) (Below.refl _ _)
        ·simp only [getElem?_toArray, getElem?_cons_zero, getElem?_cons_succ, Option.some.injEq] at ho
         subst ho
         have e5 : vs 5 = _ := he ⟨5, .data⟩ (by simp) rfl
         rw [e5] at hK ⊢
         rw [if_pos (by rfl)]
         simp only [put_someT, setIfInBounds_toArray, set_cons_zero, set_cons_succ] at hK
         have HK := Lib.hid hK
         clear hK he hi hBW
         obtain ⟨d0, d1, d2, d3, d4, d5, d6, d7⟩ := CW.out
         go_simp
         exact HK.out _ _ rfl (Below.refl _ _)
        ·simp only [getElem?_toArray, getElem?_cons_zero, getElem?_cons_succ, Option.some.injEq] at ho
         subst ho
         have e0 : vs 0 = _ := he ⟨0, .data⟩ (by simp) rfl
         rw [e0] at hK ⊢
         have e4 : vs 4 = _ := he ⟨4, .data⟩ (by simp) rfl
         rw [e4] at hK ⊢
         have e6 : vs 6 = _ := he ⟨6, .data⟩ (by simp) rfl
         rw [e6] at hK ⊢
         rw [if_pos (by rfl)]
         simp only [put_someT, setIfInBounds_toArray, set_cons_zero, set_cons_succ] at hK
         have HK := Lib.hid hK
         clear hK he hi hBW
         have FW := FS.out W BW.out
         go_simp
         go_at_call 40
         refine FW.mono ?_
         rintro en w9 ⟨rfl, h⟩
         go_simp
         exact HK.out _ _ rfl h
        ·simp only [getElem?_toArray, getElem?_cons_zero, getElem?_cons_succ, Option.some.injEq] at ho
         subst ho
         rw [if_pos (by rfl)]
         simp only [put_someT, setIfInBounds_toArray, set_cons_zero, set_cons_succ] at hK
         have HK := Lib.hid hK
         clear hK he hi hBW
         go_simp
         exact HK.out _ _ (by simp [tn16]) (Below.refl _ _)
        ·simp only [getElem?_toArray, getElem?_cons_zero, getElem?_cons_succ, Option.some.injEq] at ho
         subst ho
         have e8 : vs 8 = _ := he ⟨8, .data⟩ (by simp) rfl
         rw [e8] at hK ⊢
         rw [if_pos (by rfl)]
         simp only [put_someT, setIfInBounds_toArray, set_cons_zero, set_cons_succ] at hK
         have HK := Lib.hid hK
         clear hK he hi hBW
         obtain ⟨d0, d1, d2, d3, d4, d5, d6, d7⟩ := CW.out
         go_simp
         exact HK.out _ _ rfl (Below.refl _ _)
        ·simp only [getElem?_toArray, getElem?_cons_zero, getElem?_cons_succ, Option.some.injEq] at ho
         subst ho
         rw [if_pos (by rfl)]
         simp only [put_someT, setIfInBounds_toArray, set_cons_zero, set_cons_succ] at hK
         have HK := Lib.hid hK
         clear hK he hi hBW
         go_simp
         exact HK.out _ _ (by first | rfl | simp [tn16]) (Below.refl _ _)
        ·simp only [getElem?_toArray, getElem?_cons_zero, getElem?_cons_succ, Option.some.injEq] at ho
         subst ho
         have e9 : vs 9 = _ := he ⟨9, .data⟩ (by simp) rfl
         rw [e9] at hK ⊢
         have e10 : vs 10 = _ := he ⟨10, .data⟩ (by simp) rfl
         rw [e10] at hK ⊢
         rw [if_pos (by rfl)]
         simp only [put_someT, setIfInBounds_toArray, set_cons_zero, set_cons_succ] at hK
         have HK := Lib.hid hK
         clear hK he hi hBW
         go_simp
         exact HK.out _ _ (by first | rfl | simp [tn16]) (Below.refl _ _)
        ·simp only [getElem?_toArray, getElem?_cons_zero, getElem?_cons_succ, Option.some.injEq] at ho
         subst ho
         have e11 : vs 11 = _ := he ⟨11, .data⟩ (by simp) rfl
         rw [e11] at hK ⊢
         rw [if_pos (by rfl)]
         simp only [put_someT, setIfInBounds_toArray, set_cons_zero, set_cons_succ] at hK
         have HK := Lib.hid hK
         clear hK he hi hBW
         go_simp
         exact HK.out (.bool ((q3.toNat : Int) == 49)) _ (show Value.bool _ = .bool r by rw [HR9.out]) (Below.refl _ _)
        ·simp only [getElem?_toArray, getElem?_cons_zero, getElem?_cons_succ, Option.some.injEq] at ho
         subst ho
         have e7 : vs 7 = _ := he ⟨7, .data⟩ (by simp) rfl
         rw [e7] at hK ⊢
         have e12 : vs 12 = _ := he ⟨12, .data⟩ (by simp) rfl
         rw [e12] at hK ⊢
         rw [if_pos (by rfl)]
         simp only [put_someT, setIfInBounds_toArray, set_cons_zero, set_cons_succ] at hK
         have HK := Lib.hid hK
         clear hK he hi hBW
         go_simp
         exact HK.out _ _ (by simp [tn16]) (Below.refl _ _)
       ·intro vs W9 hall hBW
        have eo : vs 13 = .bool false := hall 13 (by decide)
        simp only [take_succ_cons, take_zero, List.drop_succ_cons, List.drop_zero, fillV, put_someT, put_noneC, setIfInBounds_toArray, set_cons_zero, set_cons_succ]
        rw [eo]
        generalize vs 0 = q09
        generalize vs 1 = q19
        generalize vs 2 = q29
        generalize vs 3 = q39
        generalize vs 4 = q49
        generalize vs 5 = q59
        generalize vs 6 = q69
        generalize vs 7 = q79
        generalize vs 8 = q89
        generalize vs 9 = q99
        generalize vs 10 = q109
        generalize vs 11 = q119
        generalize vs 12 = q129
        have B9 := Lib.hid (HX.out.trans (hBW.mono HX.out.size))
        clear hall hBW eo
        go_wp2_with fail
        go_roundw
        case rel => exact ⟨4, by omega, by go_num, B9.out⟩
        case measure => simp [intOf]
     ·obtain rfl : i9 = 4 := by omega
      have B9 := Lib.hid (HB.out.trans ((BV.out.trans (HX.out.mono BV.out.size)).mono HB.out.size))
      clear hX CX
      go_wp2_with fail
      go_roundw
      case rel => exact ⟨k + 1, by omega, by go_num, B9.out⟩
      case measure => simp [intOf]; omega
   ·obtain rfl : k = 21 := by omega
    have N0 := Lib.hid NMR.out
    clear NMR NM5 HB hB MEM HPL HRD HTR hlt
    have NA0 := Lib.hid (N0.out.then ((Below.refl _ wr).alloc (Nat.le_refl _) (.cells #[.int .i64 (-1), .int .i64 5, .int .i64 0, .int .i64 0] 3)))
    obtain ⟨_, c0, c1, c2, c3, c4, c5, c6⟩ := NA0.out.x
    go_wp2_with fail
    go_at_call 40
    refine (nm_sat NA0.out HP.out (some ⟨wr.heap.size, 0, none⟩) 4 [-1, 5, 0, 0] (rd_litT (enc := encI) (size := 1) (fun _ => rfl) [-1, 5, 0, 0] wr 3 (by simp)) ax (atomR_rtree _ _ _ (by decide)) (by decide) (show Tr.satS 2 PV [-1, 5, 0, 0] (atomT [120]) = true from by decide +kernel)).mono ?_
    rintro en x1 ⟨rfl, h⟩
    have N1 := Lib.hid (NA0.out.then h)
    clear h
    clear NA0 N0 c0 c1 c2 c3 c4 c5 c6
    have NA1 := Lib.hid (N1.out.then ((Below.refl _ x1).alloc (Nat.le_refl _) (.cells #[.int .i64 0, .int .i64 0] 3)))
    obtain ⟨_, c0, c1, c2, c3, c4, c5, c6⟩ := NA1.out.x
    go_wp2_with fail
    go_at_call 53
    refine (nm_wo NA1.out HP.out (some ⟨x1.heap.size, 0, none⟩) 2 [0, 0] (rd_litT (enc := encI) (size := 1) (fun _ => rfl) [0, 0] x1 3 (by simp)) (by simp) 0 ax (atomR_rtree _ _ _ (by decide)) (by decide) (show Tr.satS 2 PV (lessV [0, 0] 0) (atomT [120]) = false from by decide +kernel)).mono ?_
    rintro en x2 ⟨rfl, h⟩
    have N2 := Lib.hid (NA1.out.then h)
    clear h
    clear NA1 N1 c0 c1 c2 c3 c4 c5 c6
    have NA2 := Lib.hid (N2.out.then ((Below.refl _ x2).alloc (Nat.le_refl _) (.cells #[.int .i64 0] 3)))
    obtain ⟨_, c0, c1, c2, c3, c4, c5, c6⟩ := NA2.out.x
    go_wp2_with fail
    go_at_call 53
    refine (nm_wo NA2.out HP.out (some ⟨x2.heap.size, 0, none⟩) 1 [0] (rd_litT (enc := encI) (size := 1) (fun _ => rfl) [0] x2 3 (by simp)) (by simp) 1 ax (atomR_rtree _ _ _ (by decide)) (by decide) (show Tr.satS 2 PV (lessV [0] 1) (atomT [120]) = true from by decide +kernel)).mono ?_
    rintro en x3 ⟨rfl, h⟩
    have N3 := Lib.hid (NA2.out.then h)
    clear h
    clear NA2 N2 c0 c1 c2 c3 c4 c5 c6
    have NA3 := Lib.hid (N3.out.then ((Below.refl _ x3).alloc (Nat.le_refl _) (.cells #[.int .i64 0] 3)))
    obtain ⟨_, c0, c1, c2, c3, c4, c5, c6⟩ := NA3.out.x
    go_wp2_with fail
    go_at_call 53
    refine (nm_wo NA3.out HP.out (some ⟨x3.heap.size, 0, none⟩) 1 [0] (rd_litT (enc := encI) (size := 1) (fun _ => rfl) [0] x3 3 (by simp)) (by simp) (-1) ax (atomR_rtree _ _ _ (by decide)) (by decide) (show Tr.satS 2 PV (lessV [0] (-1)) (atomT [120]) = true from by decide +kernel)).mono ?_
    rintro en x4 ⟨rfl, h⟩
    have N4 := Lib.hid (NA3.out.then h)
    clear h
    clear NA3 N3 c0 c1 c2 c3 c4 c5 c6
    obtain ⟨_, c0, c1, c2, c3, c4, c5, c6⟩ := N4.out.x
    go_wp2_with fail
    go_at_call 43
    refine (nm_al N4.out HP.out 2 ax (atomR_rtree _ _ _ (by decide)) (by decide) (show Tr.aloneS 2 PV 2 (atomT [120]) = false from by decide +kernel)).mono ?_
    rintro en x5 ⟨rfl, h⟩
    have N5 := Lib.hid (N4.out.then h)
    clear h
    clear N4 c0 c1 c2 c3 c4 c5 c6
    obtain ⟨_, c0, c1, c2, c3, c4, c5, c6⟩ := N5.out.x
    obtain ⟨_, d0, d1, d2, d3, d4, d5, d6⟩ := N5.out.y
    go_wp2_with fail
    go_at_call 44
    refine (of14_any _ _ _ _ _).mono ?_
    rintro en x6 ⟨rfl, h⟩
    have N6 := Lib.hid (nm_of (k := 4) (l := [ax, ay]) N5.out rfl rfl (by decide) (fun t ht => ax_all _ (l := [ax, ay]) (by intro t ht; simp only [List.mem_cons, List.not_mem_nil, or_false] at ht; rcases ht with e | e <;> rw [e] <;> simp) t ht) h)
    clear h N5 c0 c1 c2 c3 c4 c5 c6 d0 d1 d2 d3 d4 d5 d6
    have FA := Lib.hid (nm_al N6.out HP.out (-1) (.node 4 zeroT (some ⟨x5.heap.size, 0, none⟩) 2 [ax, ay]) (N6.out.tab _ (List.mem_cons_self ..)) (show RT.parts (RT.mk 4 zeroT [atomT [120], atomT [121]]) ≤ 1000000 by decide) (show Tr.aloneS 2 PV (-1) (RT.mk 4 zeroT [atomT [120], atomT [121]]) = false from by decide +kernel))
    go_wp2_with fail
    go_at_call 43
    refine (FA.out).mono ?_
    rintro en x7 ⟨rfl, h⟩
    have N7 := Lib.hid (N6.out.then h)
    clear h
    clear N6 FA
    obtain ⟨_, c0, c1, c2, c3, c4, c5, c6⟩ := N7.out.x
    go_wp2_with fail
    go_at_call 44
    refine (of14_any _ _ _ _ _).mono ?_
    rintro en x8 ⟨rfl, h⟩
    have N8 := Lib.hid (nm_of (k := 4) (l := [ax, ax]) N7.out rfl rfl (by decide) (fun t ht => ax_all _ (l := [ax, ax]) (by intro t ht; simp only [List.mem_cons, List.not_mem_nil, or_false] at ht; rcases ht with e | e <;> rw [e] <;> simp) t ht) h)
    clear h N7 c0 c1 c2 c3 c4 c5 c6
    have FA := Lib.hid (nm_al N8.out HP.out 1 (.node 4 zeroT (some ⟨x7.heap.size, 0, none⟩) 2 [ax, ax]) (N8.out.tab _ (List.mem_cons_self ..)) (show RT.parts (RT.mk 4 zeroT [atomT [120], atomT [120]]) ≤ 1000000 by decide) (show Tr.aloneS 2 PV 1 (RT.mk 4 zeroT [atomT [120], atomT [120]]) = true from by decide +kernel))
    go_wp2_with fail
    go_at_call 43
    refine (FA.out).mono ?_
    rintro en x9 ⟨rfl, h⟩
    have N9 := Lib.hid (N8.out.then h)
    clear h
    clear N8 FA
    go_wp2_with fail
    go_at_call 37
    refine (AW.out _ N9.out.old).mono ?_
    rintro en x99 ⟨rfl, h⟩
    have BZ := Lib.hid (N9.out.old.trans (h.mono N9.out.old.size))
    clear h
    go_wp2_with fail
    go_ret
    exact ⟨rfl, BZ.out⟩
end Go.Proofs.YteobmfpbgnmffaaGreatDoor
