/- EvCmp -/
import Derived.Test.YtcpjignlhlcnpaaDoorPkgNamesRowG06
import Derived.Deep.RegionWith
set_option linter.unusedSimpArgs false
set_option linter.unusedVariables false
/- Walks: how two EVRs compare, by the program and by the document. -/

namespace Go.Proofs.YtcpjignlhlcnpaaDoor
open Go.RowKit Go.Shelf

structure Evr where
  epoch : Int
  ver : Bytes
  rel : Bytes
def Evr.val (e : Evr) : Value := .agg #[.int .i64 e.epoch, .string (bs e.ver), .string (bs e.rel)]
/-- HOW TWO EVRs COMPARE -/
def ecmp (a b : Evr) : Int := if cmpI a.epoch b.epoch ≠ 0 then cmpI a.epoch b.epoch else if comp a.ver b.ver ≠ 0 ∨ a.rel = [] ∨ b.rel = [] then comp a.ver b.ver else comp a.rel b.rel

def relC (a b : Evr) : Int := if a.rel = [] ∨ b.rel = [] then 0 else comp a.rel b.rel
/-- an EVR lies in a block of its own -/
def EBox (e : Evr) (B : Nat) (W : World) : Prop :=
  B < W.heap.size ∧ W.cell? ⟨B, 0, none⟩ = some (.int .i64 e.epoch) ∧ W.cell? ⟨B, 1, none⟩ = some (.string (bs e.ver)) ∧ W.cell? ⟨B, 2, none⟩ = some (.string (bs e.rel))
theorem EBox.below {e : Evr} {B n : Nat} {W W' : World} (h : EBox e B W) (hb : Below n W W') (hn : B < n) : EBox e B W' :=
  ⟨Nat.lt_of_lt_of_le h.1 hb.size, (hb.cell (p := ⟨B, 0, none⟩) hn).trans h.2.1, (hb.cell (p := ⟨B, 1, none⟩) hn).trans h.2.2.1, (hb.cell (p := ⟨B, 2, none⟩) hn).trans h.2.2.2⟩

set_option maxRecDepth 100000 in
set_option maxHeartbeats 2000000 in
theorem ask1_any (a b : Evr) (A B : Nat) (w : World) (ha : EBox a A w) (hb : EBox b B w) :
    Calls Tryd.prog 63 #[.pointer (some ⟨A, 0, none⟩), .pointer (some ⟨B, 0, none⟩)] w fun e w' => e = .returned (.int .i64 (cmpI a.epoch b.epoch)) ∧ Below w.heap.size w w' := by
  obtain ⟨_, a0, a1, a2⟩ := ha
  obtain ⟨_, b0, b1, b2⟩ := hb
  go_enter Tryd.func63, Tryd.ntmps63
  go_wp2_with fail
  go_at_call 64
  refine (cmp_int _ _ _).mono ?_
  rintro e w1 ⟨rfl, rfl⟩
  go_wp2
  go_ret
  exact ⟨rfl, Below.refl _ _⟩
set_option maxRecDepth 100000 in
set_option maxHeartbeats 2000000 in
theorem ask2_any (a b : Evr) (A B : Nat) (w : World) (ha : EBox a A w) (hb : EBox b B w) (h1 : a.ver.length ≤ 1000000) (h2 : b.ver.length ≤ 1000000) :
    Calls Tryd.prog 65 #[.pointer (some ⟨A, 0, none⟩), .pointer (some ⟨B, 0, none⟩)] w fun e w' => e = .returned (.int .i64 (comp a.ver b.ver)) ∧ Below w.heap.size w w' := by
  obtain ⟨_, a0, a1, a2⟩ := ha
  obtain ⟨_, b0, b1, b2⟩ := hb
  have C := Lib.hid (comp_any (bs a.ver) (bs b.ver) w (by rw [bs_size]; exact h1) (by rw [bs_size]; exact h2))
  go_enter Tryd.func65, Tryd.ntmps65
  go_wp2_with fail
  go_at_call 66
  refine C.out.mono ?_
  rintro e w1 ⟨rfl, hb1⟩
  go_wp2
  go_ret
  exact ⟨ret_int (by rw [bs_toList, bs_toList]), hb1⟩
set_option maxRecDepth 100000 in
set_option maxHeartbeats 2000000 in
theorem ask3_any (a b : Evr) (A B : Nat) (w : World) (ha : EBox a A w) (hb : EBox b B w) (h1 : a.rel.length ≤ 1000000) (h2 : b.rel.length ≤ 1000000) :
    Calls Tryd.prog 67 #[.pointer (some ⟨A, 0, none⟩), .pointer (some ⟨B, 0, none⟩)] w fun e w' => e = .returned (.int .i64 (relC a b)) ∧ Below w.heap.size w w' := by
  obtain ⟨_, a0, a1, a2⟩ := ha
  obtain ⟨_, b0, b1, b2⟩ := hb
  have C := Lib.hid (comp_any (bs a.rel) (bs b.rel) w (by rw [bs_size]; exact h1) (by rw [bs_size]; exact h2))
  by_cases e1 : a.rel = []
  · have f1 : (bs a.rel).toList = [] := by rw [bs_toList, e1]
    have H := Lib.hid (show relC a b = 0 from if_pos (.inl e1))
    generalize relC a b = r at *
    clear e1
    go_enter Tryd.func67, Tryd.ntmps67
    go_wp2_with fail
    go_ret
    exact ⟨ret_int H.out.symm, Below.refl _ _⟩
  have f1 : ¬ (bs a.rel).toList = [] := by rw [bs_toList]; exact e1
  have f2 : (bs a.rel).toList.isEmpty = false := by rw [bs_toList]; simpa using e1
  by_cases e2 : b.rel = []
  · have f3 : (bs b.rel).toList = [] := by rw [bs_toList, e2]
    have H := Lib.hid (show relC a b = 0 from if_pos (.inr e2))
    generalize relC a b = r at *
    clear e1 e2
    go_enter Tryd.func67, Tryd.ntmps67
    go_wp2_with fail
    go_ret
    exact ⟨ret_int H.out.symm, Below.refl _ _⟩
  · have f3 : ¬ (bs b.rel).toList = [] := by rw [bs_toList]; exact e2
    have f4 : (bs b.rel).toList.isEmpty = false := by rw [bs_toList]; simpa using e2
    have H := Lib.hid (show relC a b = comp a.rel b.rel from if_neg (by simp [e1, e2]))
    generalize relC a b = r at *
    clear e1 e2
    go_enter Tryd.func67, Tryd.ntmps67
    go_wp2_with fail
    go_at_call 66
    refine C.out.mono ?_
    rintro e w1 ⟨rfl, hb1⟩
    go_wp2
    go_ret
    exact ⟨ret_int (by rw [bs_toList, bs_toList, H.out]), hb1⟩

theorem ecmp_or (a b : Evr) : ecmp a b = or3 (cmpI a.epoch b.epoch) (comp a.ver b.ver) (relC a b) := by
  unfold ecmp or3 relC
  by_cases h1 : cmpI a.epoch b.epoch = 0 <;> by_cases h2 : comp a.ver b.ver = 0 <;> by_cases h3 : a.rel = [] ∨ b.rel = [] <;> simp [h1, h2, h3]

def fnv (f A B : Nat) : Value := .func (.func f) #[] #[.pointer (some ⟨A, 0, none⟩), .pointer (some ⟨B, 0, none⟩)]
set_option maxRecDepth 100000 in
set_option maxHeartbeats 2000000 in
theorem first_any (a b : Evr) (A B g : Nat) (w : World) (hg : g < w.heap.size) (ha : EBox a A w) (hb : EBox b B w) (h1 : a.ver.length ≤ 1000000) (h2 : b.ver.length ≤ 1000000) (h3 : a.rel.length ≤ 1000000) (h4 : b.rel.length ≤ 1000000)
    (g0 : w.cell? ⟨g, 0, none⟩ = some (fnv 63 A B)) (g1 : w.cell? ⟨g, 1, none⟩ = some (fnv 65 A B)) (g2 : w.cell? ⟨g, 2, none⟩ = some (fnv 67 A B)) :
    Calls Tryd.prog 62 #[.slice (some ⟨g, 0, none⟩) 3 3] w fun e w' => e = .returned (.int .i64 (ecmp a b)) ∧ Below w.heap.size w w' := by
  have H := Lib.hid (ecmp_or a b)
  have K1 := Lib.hid (fun W (h : Below w.heap.size w W) => ask1_any a b A B W (ha.below h ha.1) (hb.below h hb.1))
  have K2 := Lib.hid (fun W (h : Below w.heap.size w W) => ask2_any a b A B W (ha.below h ha.1) (hb.below h hb.1) h1 h2)
  have K3 := Lib.hid (fun W (h : Below w.heap.size w W) => ask3_any a b A B W (ha.below h ha.1) (hb.below h hb.1) h3 h4)
  generalize ecmp a b = res at *
  generalize cmpI a.epoch b.epoch = r1 at *
  generalize comp a.ver b.ver = r2 at *
  generalize relC a b = r3 at *
  unfold fnv at g0 g1 g2
  clear ha hb
  go_enter Tryd.func62, Tryd.ntmps62
  go_wp2_with fail
  go_loopw [8] (fun i wr => ∃ k : Nat, k ≤ 3 ∧ i = .int .i64 (k : Int) ∧ (1 ≤ k → r1 = 0) ∧ (2 ≤ k → r2 = 0) ∧ (3 ≤ k → r3 = 0) ∧ Below w.heap.size w wr) (fun i _ => 3 - (intOf i).toNat)
  case atStart => exact ⟨0, by omega, rfl, fun h => absurd h (by decide), fun h => absurd h (by decide), fun h => absurd h (by decide), Below.refl _ _⟩
  case round =>
    obtain ⟨k, hk, rfl, e0, e1, e2, hB⟩ := hrel
    have c0 := (hB.cell (p := ⟨g, 0, none⟩) hg).trans g0
    have c1 := (hB.cell (p := ⟨g, 1, none⟩) hg).trans g1
    have c2 := (hB.cell (p := ⟨g, 2, none⟩) hg).trans g2
    rcases (show k = 0 ∨ k = 1 ∨ k = 2 ∨ k = 3 by omega) with rfl | rfl | rfl | rfl
    · by_cases hz : r1 = 0
      · go_wp2_with fail
        go_at_call 63
        refine (K1.out _ hB).mono ?_
        rintro e w5 ⟨rfl, h⟩
        have B5 := hB.trans (h.mono hB.size)
        clear h
        go_wp2
        go_roundw
        case rel => exact ⟨1, by omega, by go_num, fun _ => hz, fun h => absurd h (by decide), fun h => absurd h (by decide), B5⟩
        case measure => simp [intOf]
      · have H2 := Lib.hid (show r1 = res by rw [H.out]; unfold or3; simp [hz])
        go_wp2_with fail
        go_at_call 63
        refine (K1.out _ hB).mono ?_
        rintro e w5 ⟨rfl, h⟩
        have B5 := hB.trans (h.mono hB.size)
        clear h
        go_wp2
        go_ret
        exact ⟨ret_int H2.out, B5⟩
    · by_cases hz : r2 = 0
      · go_wp2_with fail
        go_at_call 65
        refine (K2.out _ hB).mono ?_
        rintro e w5 ⟨rfl, h⟩
        have B5 := hB.trans (h.mono hB.size)
        clear h
        go_wp2
        go_roundw
        case rel => exact ⟨2, by omega, by go_num, fun _ => e0 (by decide), fun _ => hz, fun h => absurd h (by decide), B5⟩
        case measure => simp [intOf]
      · have H2 := Lib.hid (show r2 = res by rw [H.out]; unfold or3; simp [e0 (by decide), hz])
        go_wp2_with fail
        go_at_call 65
        refine (K2.out _ hB).mono ?_
        rintro e w5 ⟨rfl, h⟩
        have B5 := hB.trans (h.mono hB.size)
        clear h
        go_wp2
        go_ret
        exact ⟨ret_int H2.out, B5⟩
    · by_cases hz : r3 = 0
      · go_wp2_with fail
        go_at_call 67
        refine (K3.out _ hB).mono ?_
        rintro e w5 ⟨rfl, h⟩
        have B5 := hB.trans (h.mono hB.size)
        clear h
        go_wp2
        go_roundw
        case rel => exact ⟨3, by omega, by go_num, fun _ => e0 (by decide), fun _ => e1 (by decide), fun _ => hz, B5⟩
        case measure => simp [intOf]
      · have H2 := Lib.hid (show r3 = res by rw [H.out]; unfold or3; simp [e0 (by decide), e1 (by decide)])
        go_wp2_with fail
        go_at_call 67
        refine (K3.out _ hB).mono ?_
        rintro e w5 ⟨rfl, h⟩
        have B5 := hB.trans (h.mono hB.size)
        clear h
        go_wp2
        go_ret
        exact ⟨ret_int H2.out, B5⟩
    · have H2 := Lib.hid (show (0 : Int) = res by rw [H.out]; unfold or3; simp [e0 (by decide), e1 (by decide), e2 (by decide)])
      go_wp2
      go_ret
      exact ⟨ret_int H2.out, hB⟩

theorem new_ebox (w : World) (e : Evr) : EBox e w.heap.size (w.alloc (.cells #[.int .i64 e.epoch, .string (bs e.ver), .string (bs e.rel)] 23)) :=
  ⟨by simp, (World.cell?_alloc_at _ _ _ _ rfl).trans rfl, (World.cell?_alloc_at _ _ _ _ rfl).trans rfl, (World.cell?_alloc_at _ _ _ _ rfl).trans rfl⟩
set_option maxRecDepth 100000 in
set_option maxHeartbeats 2000000 in
theorem evr_any (a b : Evr) (w : World) (h1 : a.ver.length ≤ 1000000) (h2 : b.ver.length ≤ 1000000) (h3 : a.rel.length ≤ 1000000) (h4 : b.rel.length ≤ 1000000) :
    Calls Tryd.prog 60 #[a.val, b.val] w fun e w' => e = .returned (.int .i64 (ecmp a b)) ∧ Below w.heap.size w w' := by
  have F := Lib.hid (fun A B g W => first_any a b A B g W)
  have q1 := new_ebox w a
  have q2 := new_ebox (w.alloc (.cells #[.int .i64 a.epoch, .string (bs a.ver), .string (bs a.rel)] 23)) b
  unfold Evr.val
  go_enter Tryd.func60, Tryd.ntmps60
  go_wp2_with fail
  go_at_call 62
  have B2 : Below w.heap.size w (((w.alloc (.cells #[.int .i64 a.epoch, .string (bs a.ver), .string (bs a.rel)] 23)).alloc (.cells #[.int .i64 b.epoch, .string (bs b.ver), .string (bs b.rel)] 23)).alloc
      (.cells #[fnv 63 w.heap.size (w.heap.size + 1), fnv 65 w.heap.size (w.heap.size + 1), fnv 67 w.heap.size (w.heap.size + 1)] 90)) :=
    (((Below.refl _ _).alloc (Nat.le_refl _) _).alloc (by simp) _).alloc (by simp; omega) _
  simp only [World.size_alloc] at q2
  have hn : ∀ (W : World) (o : Obj), Below W.heap.size W (W.alloc o) := fun W o => (Below.refl _ _).alloc (Nat.le_refl _) o
  refine (F.out w.heap.size (w.heap.size + 1) (w.heap.size + 1 + 1) _ (by simp) ((q1.below (hn _ _) q1.1).below (hn _ _) (by simp; omega)) (q2.below (hn _ _) (by simp)) h1 h2 h3 h4
    ((World.cell?_alloc_at _ _ _ _ (by simp)).trans rfl) ((World.cell?_alloc_at _ _ _ _ (by simp)).trans rfl) ((World.cell?_alloc_at _ _ _ _ (by simp)).trans rfl)).mono ?_
  rintro e w5 ⟨rfl, h⟩
  have B5 := B2.trans (h.mono (by simp; omega))
  clear h
  go_wp2
  go_ret
  exact ⟨rfl, B5⟩
end Go.Proofs.YtcpjignlhlcnpaaDoor
