/- PkA, TextsR06, DepLaw, VmLaw -/
import Derived.Test.YteobmfpbgnmffaaGreatDoorPkgCopiesRowG08
import Derived.Test.YteobmfpbgnmffaaGreatDoorPkgCopiesRowG09
import Derived.Test.YteobmfpbgnmffaaGreatDoorPkgCopiesRowG13
import Derived.Test.YteobmfpbgnmffaaGreatDoorPkgCopiesRowG06
import Derived.Deep.RegionHeld3
import Derived.RegionTactic
import Derived.ChangeAlike
import Derived.Maps.AppendAt
set_option linter.unusedSimpArgs false
set_option linter.unusedVariables false
namespace Go.Proofs.YteobmfpbgnmffaaGreatDoor
section
/- joined: PkMuch, PkPack -/





open Go.RowKit Go.Shelf
set_option linter.unusedVariables false
/- Walks: of how many parts rich dependencies are (chandlerylaw10.much). -/

theorem below_drewNm {B : Nat} {w W : World} {n : Nat} (h : Below B w W) : Below B w (W.drewN n) := ⟨h.os, h.tape, h.output, h.size, h.block⟩
/- A package, as it lies in memory. -/

structure Pk where
  name : ByteArray
  epoch : Int
  ver : ByteArray
  rel : ByteArray
  arch : Int
  vendor : ByteArray
  provA : Option Addr
  provC : Nat
  prov : List Dp
  reqA : Option Addr
  reqC : Nat
  req : List RV
  conA : Option Addr
  conC : Nat
  con : List RV
  obsA : Option Addr
  obsC : Nat
  obs : List Dp
  rcmA : Option Addr
  rcmC : Nat
  rcm : List RV
  supA : Option Addr
  supC : Nat
  sup : List RV
  sugA : Option Addr
  sugC : Nat
  sug : List RV
  enhA : Option Addr
  enhC : Nat
  enh : List RV
  filesA : Option Addr
  filesC : Nat
  files : List ByteArray
def Pk.val (p : Pk) : Value := .agg #[.string p.name, .int .i64 p.epoch, .string p.ver, .string p.rel, .int .u8 p.arch, .string p.vendor, .slice p.provA p.prov.length p.provC, .slice p.reqA p.req.length p.reqC, .slice p.conA p.con.length p.conC, .slice p.obsA p.obs.length p.obsC, .slice p.rcmA p.rcm.length p.rcmC, .slice p.supA p.sup.length p.supC, .slice p.sugA p.sug.length p.sugC, .slice p.enhA p.enh.length p.enhC, .slice p.filesA p.files.length p.filesC]
def Pk.evr (p : Pk) : Evr := ⟨p.epoch, p.ver.toList, p.rel.toList⟩
def Dp.small (d : Dp) : Prop := d.name.length ≤ 500 ∧ d.evr.ver.length ≤ 500 ∧ d.evr.rel.length ≤ 500
/-- small enough for a statement -/
structure Pk.small (p : Pk) : Prop where
  name : p.name.size ≤ 1000
  ver : p.ver.size ≤ 1000
  rel : p.rel.size ≤ 1000
  vendor : p.vendor.size ≤ 1000
  provN : p.prov.length ≤ 100
  obsN : p.obs.length ≤ 100
  filesN : p.files.length ≤ 100
  prov : ∀ d ∈ p.prov, d.small
  obs : ∀ d ∈ p.obs, d.small
  files : ∀ s ∈ p.files, s.size ≤ 500
/-- it lies in blocks below B -/
structure Pk.Laid (B : Nat) (W : World) (p : Pk) : Prop where
  ar : (Lit.int .u8 p.arch).wf = true
  ep : (Lit.int .i64 p.epoch).wf = true
  n0 : p.name.size ≤ maxLen
  n1 : p.ver.size ≤ maxLen
  n2 : p.rel.size ≤ maxLen
  n3 : p.vendor.size ≤ maxLen
  prov : Rd encD 5 B p.provA p.provC p.prov W
  provW : ∀ d ∈ p.prov, d.wf
  obs : Rd encD 5 B p.obsA p.obsC p.obs W
  obsW : ∀ d ∈ p.obs, d.wf
  files : Rd (fun s => [Value.string s]) 1 B p.filesA p.filesC p.files W
  filesW : ∀ s ∈ p.files, s.size ≤ maxLen
  req : RRow B W p.reqA p.reqC p.req
  con : RRow B W p.conA p.conC p.con
  rcm : RRow B W p.rcmA p.rcmC p.rcm
  sup : RRow B W p.supA p.supC p.sup
  sug : RRow B W p.sugA p.sugC p.sug
  enh : RRow B W p.enhA p.enhC p.enh
theorem Pk.Laid.below {B : Nat} {W W' : World} {p : Pk} (h : p.Laid B W) (hb : Below B W W') : p.Laid B W' :=
  { h with prov := h.prov.below hb, obs := h.obs.below hb, files := h.files.below hb, req := h.req.below hb, con := h.con.below hb, rcm := h.rcm.below hb, sup := h.sup.below hb, sug := h.sug.below hb, enh := h.enh.below hb }
theorem Pk.Laid.more {B B' : Nat} {W : World} {p : Pk} (h : p.Laid B W) (hb : B ≤ B') : p.Laid B' W :=
  { h with prov := h.prov.more hb, obs := h.obs.more hb, files := h.files.more hb, req := h.req.more hb, con := h.con.more hb, rcm := h.rcm.more hb, sup := h.sup.more hb, sug := h.sug.more hb, enh := h.enh.more hb }
theorem Pk.Laid.calls {W W' : World} {p : Pk} (h : p.Laid W.heap.size W) (hb : Below W.heap.size W W') : p.Laid W'.heap.size W' := (h.below hb).more hb.size
theorem encD_len (d : Dp) : (encD d).length = 5 := rfl
theorem encD_one (d : Dp) : ∀ u ∈ encD d, u.oneCell' = true := by
  intro u hu
  simp only [encD, List.mem_cons, List.not_mem_nil, or_false] at hu
  rcases hu with rfl | rfl | rfl | rfl | rfl <;> rfl
end
section
/- Walks: whether two slices of texts are the same, wherever they lie (chandleryref06.Texts). -/


open Go.RowKit
set_option linter.unusedVariables false

set_option maxRecDepth 100000 in
set_option maxHeartbeats 4000000 in
theorem textsR06_any (A B : Option Addr) (c d : Nat) (D E : List ByteArray) (w : World) (hD : D.length ≤ 1000000000) (hE : E.length ≤ 1000000000) (hu : TR w A D) (hv : TR w B E) :
    Calls Tryz.prog 80 #[.slice A D.length c, .slice B E.length d] w fun e w' => e = .returned (.bool (decide (D = E))) ∧ Below w.heap.size w w' := by
  by_cases hl : D.length = E.length
  · obtain ⟨n, hn⟩ : ∃ n, n = D.length := ⟨_, rfl⟩
    have HN := Lib.hid hn
    have HE := Lib.hid (hn.trans hl)
    rw [← hl, ← hn]
    have hN : n ≤ 1000000000 := by omega
    have HC := Lib.hid hu
    have HD := Lib.hid hv
    clear hl hu hv hD hE hn
    go_enter Tryz.func80, Tryz.ntmps80
    go_wp2
    go_loopw [5] (fun i wr => ∃ k : Nat, k ≤ n ∧ i = .int .i64 (k : Int) ∧ RowKit.Hid (∀ j, j < k → D[j]? = E[j]?) ∧ Below w.heap.size w wr) (fun i _ => n - (intOf i).toNat)
    case atStart => exact ⟨0, by omega, rfl, Lib.hid (by intro j hj; omega), Below.refl _ _⟩
    case round =>
      obtain ⟨k, hk, rfl, hS, hB⟩ := hrel
      rename World => wr
      have HB := Lib.hid hB
      by_cases hlt : k < n
      · have l1 : k < D.length := by have := HN.out; omega
        have l2 : k < E.length := by have := HE.out; omega
        obtain ⟨g, o, rfl, hg, p1⟩ := (HC.out.below hB) k l1
        obtain ⟨f, q, rfl, hf, p2⟩ := (HD.out.below hB) k l2
        have e1 : D[k]? = some D[k] := List.getElem?_eq_getElem l1
        have e2 : E[k]? = some E[k] := List.getElem?_eq_getElem l2
        generalize D[k] = x at *
        generalize E[k] = y at *
        have E1 := Lib.hid e1
        have E2 := Lib.hid e2
        clear e1 e2 l1 l2 hB
        have hlt2 : (k : Int) < (n : Int) := by omega
        by_cases hxy : x = y
        · subst hxy
          go_wp2
          go_region
          go_wp2
          go_roundw
          case rel =>
            refine ⟨k + 1, by omega, by go_num, Lib.hid ?_, HB.out.drew⟩
            intro j hj
            by_cases hjk : j = k
            · subst hjk; rw [E1.out, E2.out]
            · exact hS.out j (by omega)
          case measure => simp [intOf]; omega
        · have hx2 : (x.toList == y.toList) = false := beq_eq_false_iff_ne.2 fun h => hxy (toList_inj h)
          have hx3 : ¬ x.toList = y.toList := fun h => hxy (toList_inj h)
          go_wp2
          go_region
          go_wp2
          go_ret
          refine ⟨ret_bool ?_, HB.out.drew⟩
          symm
          refine decide_eq_false ?_
          intro e
          have h := E1.out
          rw [e, E2.out] at h
          exact hxy (Option.some.inj h).symm
      · have hlt2 : ¬ (k : Int) < (n : Int) := by omega
        go_wp2
        go_ret
        refine ⟨ret_bool ?_, HB.out⟩
        symm
        refine decide_eq_true ?_
        refine List.ext_getElem? ?_
        intro i
        by_cases hi : i < k
        · exact hS.out i hi
        · rw [List.getElem?_eq_none (by have := HN.out; omega), List.getElem?_eq_none (by have := HE.out; omega)]
  · have hne : ((D.length : Int) == (E.length : Int)) = false := by simp only [beq_eq_false_iff_ne]; omega
    have hne2 : ¬ (D.length : Int) = (E.length : Int) := by omega
    have hx : RowKit.Hid (decide (D = E) = false) := Lib.hid (decide_eq_false fun e => hl (by rw [e]))
    rw [hx.out]
    clear hl hu hv hx
    generalize D.length = n at *
    generalize E.length = m at *
    go_enter Tryz.func80, Tryz.ntmps80
    go_wp2
    go_ret
    exact ⟨rfl, Below.refl _ _⟩
end
section
/- Walks: what the statements of dep ask first (long, awake); a dependency of its own. -/





open Go.RowKit Go.Shelf

set_option maxRecDepth 100000 in
set_option maxHeartbeats 16000000 in
theorem down_any (s : ByteArray) (e : Evr) (w : World) : Calls Tryz.prog 167 #[.string s, e.val] w fun r w' => r = .returned (.agg #[.string s, .int .u8 2, .int .i64 e.epoch, .string (bs e.ver), .string (bs e.rel)]) ∧ Below w.heap.size w w' := by
  unfold Evr.val
  go_enter Tryz.func167, Tryz.ntmps167
  go_wp2_with fail
  exact bodyPost_ret (v := .agg #[.string s, .int .u8 2, .int .i64 e.epoch, .string (bs e.ver), .string (bs e.rel)]) (by simp [results, Tryz.results167, go_sem]) rfl ⟨rfl, ((Below.refl _ _).alloc (Nat.le_refl _) _).alloc (by simp) _⟩
end
section
/- The order of versions, in plain terms: turned about, of three, what stands ahead, what stands behind. -/


open Go.RowKit

/-- two rows of parts, the end behind each -/
def cm : List Prt → List Prt → Int
  | [], [] => 0
  | [], b :: _ => cmpP fin b
  | a :: _, [] => cmpP a fin
  | a :: x, b :: y => if cmpP a b ≠ 0 then cmpP a b else cm x y
theorem cm_eq : ∀ x y : List Prt, cmpV (x ++ [fin]) (y ++ [fin]) = cm x y
  | [], [] => by decide
  | [], b :: y => by
    simp only [List.nil_append, List.cons_append, cmpV, cm]
    split
    · rfl
    · rename_i h; exact (Classical.not_not.1 h).symm
  | a :: x, [] => by
    simp only [List.nil_append, List.cons_append, cmpV, cm]
    split
    · rfl
    · rename_i h
      have : cmpV (x ++ [fin]) [] = 0 := by cases x <;> rfl
      rw [this]; exact (Classical.not_not.1 h).symm
  | a :: x, b :: y => by
    simp only [List.cons_append, cmpV, cm, cm_eq x y]
theorem comp_cm (a b : Bytes) : comp a b = cm (pts a) (pts b) := cm_eq _ _
theorem cm_three : ∀ x y : List Prt, cm x y = -1 ∨ cm x y = 0 ∨ cm x y = 1
  | [], [] => .inr (.inl rfl)
  | [], b :: y => cmpP_cases _ _
  | a :: x, [] => cmpP_cases _ _
  | a :: x, b :: y => by
    simp only [cm]
    split
    · exact cmpP_cases _ _
    · exact cm_three x y
theorem comp_three (a b : Bytes) : comp a b = -1 ∨ comp a b = 0 ∨ comp a b = 1 := by rw [comp_cm]; exact cm_three _ _
/- a byte that is no part, ahead, between, behind -/
end
end Go.Proofs.YteobmfpbgnmffaaGreatDoor
