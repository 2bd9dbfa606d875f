/- RichParts, walked. -/
import Derived.Test.YtpnnhhgojijlbaaDoorRpA
import Derived.BigRegion
import Derived.Deep.DrawnRows
import Derived.Deep.Cut
import Derived.Test.YtpnnhhgojijlbaaDoorHeld
namespace Go.Proofs.YtpnnhhgojijlbaaDoor
open Go.RowKit Go.Shelf
set_option linter.unusedVariables false

theorem xs_held {w8 w11 : World} {o1 o2 : Obj} {a0 a1 a2 a3 a4 a5 a6 : Value} {row : Option Nat} (hbx : Box7 w8.heap.size a0 a1 a2 a3 a4 a5 a6 (w8.alloc o1)) (hg : ((w8.alloc o1).alloc o2).grownBy w11 row) (hr : ∀ q, row = some q → q < w8.heap.size) :
    w11.cell? ⟨w8.heap.size, 6, none⟩ = some a6 ∧ w11.frozen? ⟨w8.heap.size, 6, none⟩ = false ∧ w8.heap.size < w11.heap.size := by
  have z1 : (w8.alloc o1).heap.size = w8.heap.size + 1 := by simp
  have z2 : ((w8.alloc o1).alloc o2).heap.size = w8.heap.size + 2 := by simp
  have hb : w11.heap[w8.heap.size]? = (w8.alloc o1).heap[w8.heap.size]? := (hg.block w8.heap.size (by omega) (fun e => by have := hr _ e.symm; omega)).trans (Below.heap_alloc _ _ _ (by omega))
  have hz := hg.size
  exact ⟨(World.cell?_of_block (w := w8.alloc o1) (a := ⟨w8.heap.size, 6, none⟩) hb).trans hbx.1.2.2.2.2.2.2, (World.frozen?_of_block (w := w8.alloc o1) (a := ⟨w8.heap.size, 6, none⟩) hb).trans hbx.2.1.2.2.2.2.2.2, by omega⟩
theorem XS.cells {w W : World} {a b x y : RV} {k : Int} {d : Dp} {m g cc N : Nat} {l : List RV} (h : XS w a b k d m g cc (x :: (l ++ [y])) W) (hN : N = l.length + 1) :
    W.cell? ⟨m, 6, none⟩ = some (.slice (some ⟨g, 0, none⟩) (N + 1) cc) ∧ (W.cell? ⟨g, 0, none⟩ = some (Value.int .u8 x.kind) ∧ W.cell? ⟨g, 1, none⟩ = some (Value.string (bs x.dep.name)) ∧ W.cell? ⟨g, 2, none⟩ = some (Value.int .u8 x.dep.op) ∧ W.cell? ⟨g, 3, none⟩ = some (Value.int .i64 x.dep.evr.epoch) ∧ W.cell? ⟨g, 4, none⟩ = some (Value.string (bs x.dep.evr.ver)) ∧ W.cell? ⟨g, 5, none⟩ = some (Value.string (bs x.dep.evr.rel)) ∧ W.cell? ⟨g, 6, none⟩ = some (Value.slice x.addr x.args.length x.cap)) ∧ (W.cell? ⟨g, N * 7, none⟩ = some (Value.int .u8 y.kind) ∧ W.cell? ⟨g, N * 7 + 1, none⟩ = some (Value.string (bs y.dep.name)) ∧ W.cell? ⟨g, N * 7 + 2, none⟩ = some (Value.int .u8 y.dep.op) ∧ W.cell? ⟨g, N * 7 + 3, none⟩ = some (Value.int .i64 y.dep.evr.epoch) ∧ W.cell? ⟨g, N * 7 + 4, none⟩ = some (Value.string (bs y.dep.evr.ver)) ∧ W.cell? ⟨g, N * 7 + 5, none⟩ = some (Value.string (bs y.dep.evr.rel)) ∧ W.cell? ⟨g, N * 7 + 6, none⟩ = some (Value.slice y.addr y.args.length y.cap)) := by
  subst hN
  have hlen : (x :: (l ++ [y])).length = l.length + 2 := by simp
  have at0 : ∀ k (hk : k < (x :: (l ++ [y])).length) j u, (encR (x :: (l ++ [y]))[k])[j]? = some u → W.cell? ⟨g, k * 7 + j, none⟩ = some u := fun k hk j u hu => by
    obtain ⟨b, off, e, _, hc⟩ := h.row.2.2 k hk
    cases e
    have := hc j u hu
    rwa [Nat.zero_add] at this
  have c6 := h.box.1.2.2.2.2.2.2
  rw [hlen] at c6
  have e1 : (x :: (l ++ [y]))[l.length + 1]'(by simp) = y := by simp
  have h0 := fun j u hu => at0 0 (by simp) j u hu
  have h1 := at0 (l.length + 1) (by simp)
  rw [e1] at h1
  refine ⟨c6, ⟨?_, ?_, ?_, ?_, ?_, ?_, ?_⟩, ?_, ?_, ?_, ?_, ?_, ?_, ?_⟩
  · simpa using h0 0 _ rfl
  · simpa using h0 1 _ rfl
  · simpa using h0 2 _ rfl
  · simpa using h0 3 _ rfl
  · simpa using h0 4 _ rfl
  · simpa using h0 5 _ rfl
  · simpa using h0 6 _ rfl
  · exact h1 0 _ rfl
  · exact h1 1 _ rfl
  · exact h1 2 _ rfl
  · exact h1 3 _ rfl
  · exact h1 4 _ rfl
  · exact h1 5 _ rfl
  · exact h1 6 _ rfl
theorem sc_far {w : World} {g m i j : Nat} {v : Value} (h : m ≠ g) : (w.setCell ⟨g, i, none⟩ v).cell? ⟨m, j, none⟩ = w.cell? ⟨m, j, none⟩ := sc_other (fun e => by injection e with e1; exact h e1.symm)
theorem drew_cell {w : World} {a : Addr} : w.drew.cell? a = w.cell? a := rfl
theorem mk_pp {w W : World} {a b x : RV} {m g n cc : Nat} (hx : x = .node a.kind a.dep (some ⟨g, 0, none⟩) cc x.args) (hn : x.args.length = n) (h1 : TwoX w a b w.heap.size (w.heap.size + 1) W) (h2 : BX x m W) : W.cell? ⟨m, 0, none⟩ = some (.int .u8 a.kind) ∧ W.cell? ⟨m, 1, none⟩ = some (.string (bs a.dep.name)) ∧ W.cell? ⟨m, 2, none⟩ = some (.int .u8 a.dep.op) ∧ W.cell? ⟨m, 3, none⟩ = some (.int .i64 a.dep.evr.epoch) ∧ W.cell? ⟨m, 4, none⟩ = some (.string (bs a.dep.evr.ver)) ∧ W.cell? ⟨m, 5, none⟩ = some (.string (bs a.dep.evr.rel)) ∧ W.cell? ⟨m, 6, none⟩ = some (.slice (some ⟨g, 0, none⟩) n cc) ∧ W.cell? ⟨w.heap.size, 0, none⟩ = some (.int .u8 a.kind) ∧ W.cell? ⟨w.heap.size, 1, none⟩ = some (.string (bs a.dep.name)) ∧ W.cell? ⟨w.heap.size, 2, none⟩ = some (.int .u8 a.dep.op) ∧ W.cell? ⟨w.heap.size, 3, none⟩ = some (.int .i64 a.dep.evr.epoch) ∧ W.cell? ⟨w.heap.size, 4, none⟩ = some (.string (bs a.dep.evr.ver)) ∧ W.cell? ⟨w.heap.size, 5, none⟩ = some (.string (bs a.dep.evr.rel)) ∧ W.cell? ⟨w.heap.size, 6, none⟩ = some (.slice a.addr a.args.length a.cap) ∧ Hid (TwoX w a b w.heap.size (w.heap.size + 1) W) ∧ Hid (BX x m W) := by
  subst hn
  obtain ⟨⟨p0, p1, p2, p3, p4, p5, p6⟩, _⟩ := h2.box
  obtain ⟨⟨q0, q1, q2, q3, q4, q5, q6⟩, _⟩ := h1.xa.box
  rw [hx] at p0 p1 p2 p3 p4 p5 p6
  exact ⟨p0, p1, p2, p3, p4, p5, p6, q0, q1, q2, q3, q4, q5, q6, Lib.hid h1, Lib.hid h2⟩
theorem keep_pp {w W W' : World} {a b x : RV} {m g n cc : Nat} (hx : x = .node a.kind a.dep (some ⟨g, 0, none⟩) cc x.args) (hn : x.args.length = n) (h : W.cell? ⟨m, 0, none⟩ = some (.int .u8 a.kind) ∧ W.cell? ⟨m, 1, none⟩ = some (.string (bs a.dep.name)) ∧ W.cell? ⟨m, 2, none⟩ = some (.int .u8 a.dep.op) ∧ W.cell? ⟨m, 3, none⟩ = some (.int .i64 a.dep.evr.epoch) ∧ W.cell? ⟨m, 4, none⟩ = some (.string (bs a.dep.evr.ver)) ∧ W.cell? ⟨m, 5, none⟩ = some (.string (bs a.dep.evr.rel)) ∧ W.cell? ⟨m, 6, none⟩ = some (.slice (some ⟨g, 0, none⟩) n cc) ∧ W.cell? ⟨w.heap.size, 0, none⟩ = some (.int .u8 a.kind) ∧ W.cell? ⟨w.heap.size, 1, none⟩ = some (.string (bs a.dep.name)) ∧ W.cell? ⟨w.heap.size, 2, none⟩ = some (.int .u8 a.dep.op) ∧ W.cell? ⟨w.heap.size, 3, none⟩ = some (.int .i64 a.dep.evr.epoch) ∧ W.cell? ⟨w.heap.size, 4, none⟩ = some (.string (bs a.dep.evr.ver)) ∧ W.cell? ⟨w.heap.size, 5, none⟩ = some (.string (bs a.dep.evr.rel)) ∧ W.cell? ⟨w.heap.size, 6, none⟩ = some (.slice a.addr a.args.length a.cap) ∧ Hid (TwoX w a b w.heap.size (w.heap.size + 1) W) ∧ Hid (BX x m W)) (hb : Below W.heap.size W W') : W'.cell? ⟨m, 0, none⟩ = some (.int .u8 a.kind) ∧ W'.cell? ⟨m, 1, none⟩ = some (.string (bs a.dep.name)) ∧ W'.cell? ⟨m, 2, none⟩ = some (.int .u8 a.dep.op) ∧ W'.cell? ⟨m, 3, none⟩ = some (.int .i64 a.dep.evr.epoch) ∧ W'.cell? ⟨m, 4, none⟩ = some (.string (bs a.dep.evr.ver)) ∧ W'.cell? ⟨m, 5, none⟩ = some (.string (bs a.dep.evr.rel)) ∧ W'.cell? ⟨m, 6, none⟩ = some (.slice (some ⟨g, 0, none⟩) n cc) ∧ W'.cell? ⟨w.heap.size, 0, none⟩ = some (.int .u8 a.kind) ∧ W'.cell? ⟨w.heap.size, 1, none⟩ = some (.string (bs a.dep.name)) ∧ W'.cell? ⟨w.heap.size, 2, none⟩ = some (.int .u8 a.dep.op) ∧ W'.cell? ⟨w.heap.size, 3, none⟩ = some (.int .i64 a.dep.evr.epoch) ∧ W'.cell? ⟨w.heap.size, 4, none⟩ = some (.string (bs a.dep.evr.ver)) ∧ W'.cell? ⟨w.heap.size, 5, none⟩ = some (.string (bs a.dep.evr.rel)) ∧ W'.cell? ⟨w.heap.size, 6, none⟩ = some (.slice a.addr a.args.length a.cap) ∧ Hid (TwoX w a b w.heap.size (w.heap.size + 1) W') ∧ Hid (BX x m W') :=
  mk_pp hx hn (h.2.2.2.2.2.2.2.2.2.2.2.2.2.2.1.out.then hb) (h.2.2.2.2.2.2.2.2.2.2.2.2.2.2.2.out.then hb)
theorem tail_pp {w W : World} {a b x : RV} {m g n cc : Nat} (h : W.cell? ⟨m, 0, none⟩ = some (.int .u8 a.kind) ∧ W.cell? ⟨m, 1, none⟩ = some (.string (bs a.dep.name)) ∧ W.cell? ⟨m, 2, none⟩ = some (.int .u8 a.dep.op) ∧ W.cell? ⟨m, 3, none⟩ = some (.int .i64 a.dep.evr.epoch) ∧ W.cell? ⟨m, 4, none⟩ = some (.string (bs a.dep.evr.ver)) ∧ W.cell? ⟨m, 5, none⟩ = some (.string (bs a.dep.evr.rel)) ∧ W.cell? ⟨m, 6, none⟩ = some (.slice (some ⟨g, 0, none⟩) n cc) ∧ W.cell? ⟨w.heap.size, 0, none⟩ = some (.int .u8 a.kind) ∧ W.cell? ⟨w.heap.size, 1, none⟩ = some (.string (bs a.dep.name)) ∧ W.cell? ⟨w.heap.size, 2, none⟩ = some (.int .u8 a.dep.op) ∧ W.cell? ⟨w.heap.size, 3, none⟩ = some (.int .i64 a.dep.evr.epoch) ∧ W.cell? ⟨w.heap.size, 4, none⟩ = some (.string (bs a.dep.evr.ver)) ∧ W.cell? ⟨w.heap.size, 5, none⟩ = some (.string (bs a.dep.evr.rel)) ∧ W.cell? ⟨w.heap.size, 6, none⟩ = some (.slice a.addr a.args.length a.cap) ∧ Hid (TwoX w a b w.heap.size (w.heap.size + 1) W) ∧ Hid (BX x m W)) : TwoX w a b w.heap.size (w.heap.size + 1) W ∧ BX x m W := ⟨h.2.2.2.2.2.2.2.2.2.2.2.2.2.2.1.out, h.2.2.2.2.2.2.2.2.2.2.2.2.2.2.2.out⟩
theorem more_parts {k : Int} {d : Dp} {l : List RT} {a m : RT} (hm : m.parts = 1) : (RT.mk k d (m :: (l ++ [a]))).parts = (RT.mk k d (a :: l)).parts + 1 := by
  simp only [RT.parts, partsL, partsL_app, hm]; omega
/-- what region 10 leaves: nothing more is asked, or the three premises hold -/
def Sift (w : World) (a b : RV) (s : Value) (W : World) : Prop := TwoX w a b w.heap.size (w.heap.size + 1) W ∧ (s = .bool true ∨ (s = .bool false ∧ b.tree.whole = true ∧ b.kind = 1 ∧ (a.kind = 2 ∨ a.kind = 3 ∨ a.kind = 6)))
attribute [local go_sem ↓] Go.wp_at_zero Go.wp_at_succ
set_option maxRecDepth 100000 in
set_option maxHeartbeats 16000000 in
theorem richParts_row (w : World) (hI : RichIn w) (a : RV) (ha : RTree w.heap.size w a) (b : RV) (hb : RTree w.heap.size w b) : Calls Tryd.prog 4 #[a.val, b.val] w fun e w' => e = .returned (.bool true) ∧ Below w.heap.size w w' := by
  have ST := Lib.hid (TwoX.new hI ha hb)
  have LA := Lib.hid (fun W (s : TwoX w a b w.heap.size (w.heap.size + 1) W) => rlarge_any a W s.xa.tree)
  have LB := Lib.hid (fun W (s : TwoX w a b w.heap.size (w.heap.size + 1) W) => rlarge_any b W s.xb.tree)
  have WA := Lib.hid (fun W (s : TwoX w a b w.heap.size (w.heap.size + 1) W) (h : a.tree.parts ≤ 2000) => rwhole_any a W (by omega) s.xa.tree s.ri)
  have WB := Lib.hid (fun W (s : TwoX w a b w.heap.size (w.heap.size + 1) W) (h : b.tree.parts ≤ 2000) => rwhole_any b W (by omega) s.xb.tree s.ri)
  have CA := Lib.hid (fun W (s : TwoX w a b w.heap.size (w.heap.size + 1) W) (h : a.tree.parts ≤ 2000) => rcopy_any a.ht a W (Nat.le_refl _) (by omega) s.xa.tree)
  have AW := Lib.hid (fun W (s : TwoX w a b w.heap.size (w.heap.size + 1) W) => rawake W s.ri)
  have HAT := Lib.hid (tree_parts a)
  have HBT := Lib.hid (tree_parts b)
  have HAA := Lib.hid (fun W (s : TwoX w a b w.heap.size (w.heap.size + 1) W) => s.xa.tree.rrow)
  have hm := ha.row.len
  have HI := Lib.hid hI
  have HA0 := Lib.hid ha
  have HB0 := Lib.hid hb
  unfold RV.val at LA LB WA WB CA ⊢
  clear hI ha hb
  go_enter Tryd.func4, Tryd.ntmps4
  go_wp2_with fail
  go_at_call 13
  refine (LA.out _ ST.out).mono ?_
  rintro e w1 ⟨r1, rfl, hp1, h⟩
  have P1 := Lib.hid hp1
  have ST := Lib.hid (ST.out.then h)
  clear h hp1
  cases r1
  rotate_left
  · as_aux_lemma =>
      go_wp2_with fail
      go_at_call 12
      refine (AW.out _ ST.out).mono ?_
      rintro e w2 ⟨rfl, h⟩
      have ST := Lib.hid (ST.out.then h)
      clear h
      go_wp2_with fail
      go_ret
      exact ⟨rfl, ST.out.old⟩
  obtain ⟨⟨y0, y1, y2, y3, y4, y5, y6⟩, _, yl⟩ := id ST.out.xb.box
  go_wp2_with fail
  go_at_call 13
  refine (LB.out _ ST.out).mono ?_
  rintro e w2 ⟨r2, rfl, hp2, h⟩
  have P2 := Lib.hid hp2
  have ST := Lib.hid (ST.out.then h)
  clear h hp2 y0 y1 y2 y3 y4 y5 y6 yl
  cases r2
  rotate_left
  · as_aux_lemma =>
      go_wp2_with fail
      go_at_call 12
      refine (AW.out _ ST.out).mono ?_
      rintro e w2 ⟨rfl, h⟩
      have ST := Lib.hid (ST.out.then h)
      clear h
      go_wp2_with fail
      go_ret
      exact ⟨rfl, ST.out.old⟩
  go_wp2_with fail
  go_at_call 12
  refine (AW.out _ ST.out).mono ?_
  rintro e w3 ⟨rfl, h⟩
  have ST := Lib.hid (ST.out.then h)
  have P1 := Lib.hid (P1.out (by trivial))
  have P2 := Lib.hid (P2.out (by trivial))
  clear h LA LB
  obtain ⟨⟨x0, x1, x2, x3, x4, x5, x6⟩, _, xl⟩ := id ST.out.xa.box
  go_wp2_with fail
  go_at_call 11
  refine (WA.out _ ST.out P1.out).mono ?_
  rintro e w4 ⟨rfl, h⟩
  have ST := Lib.hid (ST.out.then h)
  clear h x0 x1 x2 x3 x4 x5 x6 xl
  cases hwa : a.tree.whole
  · as_aux_lemma =>
      clear hwa
      go_wp2_with fail
      go_ret
      exact ⟨rfl, ST.out.old⟩
  have HWA := Lib.hid hwa
  have WSUB := Lib.hid (fun (k : Nat) (hk : k < a.args.length) => show a.args[k].tree.whole = true from whole_sub (by rw [HAT.out] at hwa; exact hwa) (by rw [← treeL_get a.args k hk]; exact List.getElem_mem _))
  clear hwa WA
  go_wp2_with fail
  go_loopw [5] (fun iv wr => ∃ i : Nat, i ≤ a.args.length ∧ iv = .int .i64 (i : Int) ∧ TwoX w a b w.heap.size (w.heap.size + 1) wr) (fun iv _ => a.args.length - (intOf iv).toNat)
  case atStart => exact ⟨0, Nat.zero_le _, rfl, ST.out⟩
  case round =>
    obtain ⟨i, hi, rfl, hS⟩ := hrel
    rename World => wr
    have ST := Lib.hid hS
    clear hS
    obtain ⟨⟨x0, x1, x2, x3, x4, x5, x6⟩, _, xl⟩ := id ST.out.xa.box
    by_cases hlt : i < a.args.length
    · have RR := HAA.out _ ST.out
      obtain ⟨bb, o, hadr, hbb, e0, e1, e2, e3, e4, e5, e6⟩ := RR.at_ hlt
      have TA := RR.2 _ (List.getElem_mem hlt)
      have hws := WSUB.out i hlt
      have WC := Lib.hid (rwhole_any a.args[i] wr (by unfold RT.whole at hws; simp only [Bool.and_eq_true, decide_eq_true_eq] at hws; omega) TA ST.out.ri)
      rw [hws] at WC
      unfold RV.val at WC
      rw [hadr] at x6
      clear hadr
      have i0 : (0 : Int) ≤ (i : Int) := by omega
      have i1 : (i : Int) < (a.args.length : Int) := by omega
      clear RR TA hws
      generalize a.args[i] = x at *
      go_wp2_with fail
      go_at_call 11
      refine WC.out.mono ?_
      rintro e w5 ⟨rfl, h⟩
      have ST := Lib.hid (ST.out.then h)
      clear h WC e0 e1 e2 e3 e4 e5 e6 x0 x1 x2 x3 x4 x5 x6 xl
      go_wp2_with fail
      go_roundw
      case rel => exact ⟨i + 1, by omega, by go_num, ST.out⟩
      case measure => simp [intOf]; omega
    · have i1 : ¬ (i : Int) < (a.args.length : Int) := by omega
      clear hlt hi WSUB
      go_upto_region 10 with fail
      go_cut [57] from 6 (fun s W => Sift w a b s W)
      case first =>
        obtain ⟨⟨y0, y1, y2, y3, y4, y5, y6⟩, _, yl⟩ := id ST.out.xb.box
        by_cases kk : a.kind = 2 ∨ a.kind = 3 ∨ a.kind = 6
        · by_cases kb : b.kind = 1
          · have HKB := Lib.hid kb
            have HKK := Lib.hid kk
            have kb1 : (b.kind == 1) = true := by simpa using kb
            have kb2 : (b.kind != 1) = false := by simpa using kb
            clear kb
            cases hwb : b.tree.whole
            · rw [hwb] at WB
              clear hwb
              rcases kk with kk | kk | kk
              all_goals
                rw [kk] at x0
                clear kk
                go_wp2_with fail
                go_at_call 11
                refine (WB.out _ ST.out P2.out).mono ?_
                rintro e w5 ⟨rfl, h⟩
                have ST := Lib.hid (ST.out.then h)
                clear h x0 x1 x2 x3 x4 x5 x6 xl y0 y1 y2 y3 y4 y5 y6 yl
                go_wp2_with fail
                go_meet
                exact ⟨ST.out, .inl rfl⟩
            · have HWB := Lib.hid hwb
              rw [hwb] at WB
              clear hwb
              rcases kk with kk | kk | kk
              all_goals
                rw [kk] at x0
                clear kk
                go_wp2_with fail
                go_at_call 11
                refine (WB.out _ ST.out P2.out).mono ?_
                rintro e w5 ⟨rfl, h⟩
                have ST := Lib.hid (ST.out.then h)
                clear h x0 x1 x2 x3 x4 x5 x6 xl y0 y1 y2 y3 y4 y5 y6 yl
                go_wp2_with fail
                go_meet
                exact ⟨ST.out, .inr ⟨rfl, HWB.out, HKB.out, HKK.out⟩⟩
          · have kb1 : (b.kind == 1) = false := by simpa using kb
            have kb2 : (b.kind != 1) = true := by simpa using kb
            clear kb
            rcases kk with kk | kk | kk
            all_goals
              rw [kk] at x0
              clear kk
              go_wp2_with fail
              go_meet
              exact ⟨ST.out, .inl rfl⟩
        · have k2 : (a.kind == 2) = false := by simp only [beq_eq_false_iff_ne]; omega
          have k3 : (a.kind == 3) = false := by simp only [beq_eq_false_iff_ne]; omega
          have k6 : (a.kind == 6) = false := by simp only [beq_eq_false_iff_ne]; omega
          have k2' : (a.kind != 2) = true := by simp only [bne_iff_ne]; omega
          have k3' : (a.kind != 3) = true := by simp only [bne_iff_ne]; omega
          have k6' : (a.kind != 6) = true := by simp only [bne_iff_ne]; omega
          clear kk
          go_wp2_with fail
          go_meet
          exact ⟨ST.out, .inl rfl⟩
      case rest =>
        obtain ⟨hT, hc⟩ := hcut
        clear x0 x1 x2 x3 x4 x5 x6 xl i1
        have ST := Lib.hid hT
        clear hT
        rcases hc with rfl | ⟨rfl, hwb, hkb, hkk⟩
        · go_wp2_with fail
          go_ret
          exact ⟨rfl, ST.out.old⟩
        · have HWB := Lib.hid hwb
          have HKB := Lib.hid hkb
          have HKK := Lib.hid hkk
          clear hwb hkb hkk
          obtain ⟨⟨x0, x1, x2, x3, x4, x5, x6⟩, _, xl⟩ := id ST.out.xa.box
          go_wp2_with fail
          go_at_call 14
          refine (CA.out _ ST.out P1.out).mono ?_
          rintro e w8 ⟨A, c, l, rfl, htl, hown, htr, h⟩
          have H7 := Lib.hid (show w.heap.size + 2 ≤ wc.heap.size from ST.out.xb.lt)
          have H78 := Lib.hid h.size
          have ST8 := Lib.hid (ST.out.then h)
          have HO := Lib.hid hown
          have HTR := Lib.hid htr
          have HTL := Lib.hid htl
          have HL := Lib.hid (show 2 ≤ l.length ∧ l.length ≤ 24 by
            have h1 := HWA.out
            rw [HAT.out] at h1
            have h2 := whole_args h1 HKK.out
            rw [treeL_len] at h2
            have h3 := congrArg List.length htl
            rw [treeL_len, treeL_len] at h3
            omega)
          have RL := Lib.hid (fun o1 : Obj => show Rd encR 7 (w8.heap.size + 2) (some ⟨w8.heap.size + 1, 0, none⟩) 1 [b] ((w8.alloc o1).alloc (.cells #[.int .u8 b.kind, .string (bs b.dep.name), .int .u8 b.dep.op, .int .i64 b.dep.evr.epoch, .string (bs b.dep.evr.ver), .string (bs b.dep.evr.rel), .slice b.addr b.args.length b.cap] 29)) by
            have h1 := rd_lit (w8.alloc o1) b
            rw [show (w8.alloc o1).heap.size = w8.heap.size + 1 by simp] at h1
            exact h1)
          obtain ⟨⟨y0, y1, y2, y3, y4, y5, y6⟩, _, yl⟩ := id ST8.out.xb.box
          clear h hown htr htl x0 x1 x2 x3 x4 x5 x6 xl CA WB AW
          rw [show (RV.node a.kind a.dep A c l).val = .agg #[.int .u8 a.kind, .string (bs a.dep.name), .int .u8 a.dep.op, .int .i64 a.dep.evr.epoch, .string (bs a.dep.evr.ver), .string (bs a.dep.evr.rel), .slice A l.length c] from rfl]
          go_wp2_with (at_builtin; refine wpList_append_rd (P := Tryd.prog) _ rfl _ _ 27 rfl wc.heap.size 29 _ _ 7 _ (by rfl) (by rfl) (by rfl) (by rfl) (by rfl) (by rfl) (by decide) encR_len encR_one _ l.length (l.flatMap encR) rfl (World.ownsRow.alloc (World.ownsRow.alloc HO.out _) _) _ (some ⟨w8.heap.size + 1, 0, none⟩) 1 [b] 1 rfl rfl (RL.out _) (by have := HL.out; simp; omega) (by decide) (by have := H78.out; simp; omega) ?_; intro v2 w9 ho2 hg2 hv2; simp only [List.length_cons, List.length_nil, Nat.zero_add, List.flatMap_cons, List.flatMap_nil, List.append_nil] at ho2; obtain ⟨q6, f6, ql⟩ := xs_held (Box7.new w8 (.int .u8 a.kind) (.string (bs a.dep.name)) (.int .u8 a.dep.op) (.int .i64 a.dep.evr.epoch) (.string (bs a.dep.evr.ver)) (.string (bs a.dep.evr.rel)) (.slice A l.length c) 29) hg2 (fun q e => (World.ownsRow.lt HO.out q e).2); obtain ⟨AA, cc, rfl⟩ := own_shape ho2; have HO2 := Lib.hid ho2; have HG2 := Lib.hid hg2; have HV2 := Lib.hid hv2; clear ho2 hg2 hv2)
          obtain ⟨g, cc', hvv, XS0⟩ := XS.start HI.out HA0.out HB0.out ST8.out H7.out H78.out HO.out HTR.out (Box7.new w8 (.int .u8 a.kind) (.string (bs a.dep.name)) (.int .u8 a.dep.op) (.int .i64 a.dep.evr.epoch) (.string (bs a.dep.evr.ver)) (.string (bs a.dep.evr.rel)) (.slice A l.length c) 29) HO2.out HG2.out HV2.out
          obtain ⟨l0, l1, rfl⟩ : ∃ x l1, l = x :: l1 := by
            cases l with
            | nil => have := HL.out; simp at this
            | cons x r => exact ⟨x, r, rfl⟩
          injection hvv with e1 e2 e3
          subst e1
          subst e3
          generalize w9.setCell ⟨w8.heap.size, 6, none⟩ (.slice (some ⟨g, 0, none⟩) ((l0 :: l1).length + 1) cc) = w10 at *
          have XS1 : XS w a b a.kind a.dep w8.heap.size g cc (l0 :: (l1 ++ [b])) w10 := XS0
          obtain ⟨N, hN⟩ : ∃ N, N = l1.length + 1 := ⟨_, rfl⟩
          obtain ⟨q6, ⟨a0, a1, a2, a3, a4, a5, a6⟩, b0, b1, b2, b3, b4, b5, b6⟩ := XS1.cells hN
          have hfz := XS1.fz
          have hfm := XS1.box.2.1.2.2.2.2.2.2
          have hN1 : 1 ≤ N := by omega
          have hN2 : N ≤ 24 := by have := HL.out; simp at this; omega
          obtain ⟨lt1, lt2, lt3, lt4⟩ := XS1.lt
          have lt5 : w8.heap.size ≠ g := fun e => lt3 e.symm
          have lm := XS1.box.2.2
          have XS1 := Lib.hid XS1
          have HN := Lib.hid hN
          have n0 : (0 : Int) ≤ (N : Int) := by omega
          have n1 : (N : Int) < (N : Int) + 1 := by omega
          have n2 : IntKind.i64.wrap ((N : Int) + 1 - 1) = (N : Int) := by rw [show (N : Int) + 1 - 1 = (N : Int) by omega]; exact IntWalk.i64_in _ (by omega)
          have n3 : (0 : Int) < (N : Int) + 1 := by omega
          have n4 : ((N : Int)).toNat = N := by omega
          have n5 : IntKind.i64.wrap (N : Int) = (N : Int) := IntWalk.i64_in _ (by omega)
          clear XS0 e2 HO2 hN HO HTR RL
          clear P2 H78 ST8 HV2 HG2
          generalize Value.agg #[.int .u8 a.kind, .string (bs a.dep.name), .int .u8 a.dep.op, .int .i64 a.dep.evr.epoch, .string (bs a.dep.evr.ver), .string (bs a.dep.evr.rel), .slice a.addr a.args.length a.cap] = va
          generalize Value.agg #[.int .u8 b.kind, .string (bs b.dep.name), .int .u8 b.dep.op, .int .i64 b.dep.evr.epoch, .string (bs b.dep.evr.ver), .string (bs b.dep.evr.rel), .slice b.addr b.args.length b.cap] = vb
          generalize Value.agg #[.int .u8 a.kind, .string (bs a.dep.name), .int .u8 a.dep.op, .int .i64 a.dep.evr.epoch, .string (bs a.dep.evr.ver), .string (bs a.dep.evr.rel), .slice A (l0 :: l1).length c] = vx
          have hqd : w10.drew.cell? ⟨w8.heap.size, 6, none⟩ = some (.slice (some ⟨g, 0, none⟩) (N + 1) cc) := q6
          refine wp_region_held_drew (S := fun W => W.cell? ⟨w8.heap.size, 6, none⟩ = some (.slice (some ⟨g, 0, none⟩) (N + 1) cc)) (by kernel_rfl) (by exact hqd) (fun hHeld => ?_)
          refine held_take 0 (some 66) ?_ rfl rfl (by kernel_rfl) (by kernel_rfl) (by kernel_rfl) (fun _ _ _ h => h) (by assumption) (by rfl) ?_ ?_
          rotate_left
          · intro w hSw
            try dsimp only at hSw
            try simp only [List.getElem_toArray, List.getElem_cons_succ, List.getElem_cons_zero]
            go_simp
            try with_reducible rfl
          try simp only [Act.put, List.setIfInBounds_toArray, List.set_cons_zero, List.set_cons_succ]
          refine held_take 1 (some 67) ?_ rfl rfl (by kernel_rfl) (by kernel_rfl) (by kernel_rfl) (fun _ _ _ h => h) (by assumption) (by rfl) ?_ ?_
          rotate_left
          · intro w hSw
            try dsimp only at hSw
            try simp only [List.getElem_toArray, List.getElem_cons_succ, List.getElem_cons_zero]
            go_simp
            try with_reducible rfl
          try simp only [Act.put, List.setIfInBounds_toArray, List.set_cons_zero, List.set_cons_succ]
          refine held_take 2 (some 68) ?_ rfl rfl (by kernel_rfl) (by kernel_rfl) (by kernel_rfl) (fun _ _ _ h => h) (by assumption) (by rfl) ?_ ?_
          rotate_left
          · intro w hSw
            try dsimp only at hSw
            try simp only [List.getElem_toArray, List.getElem_cons_succ, List.getElem_cons_zero]
            go_simp
            try with_reducible rfl
          try simp only [Act.put, List.setIfInBounds_toArray, List.set_cons_zero, List.set_cons_succ]
          refine held_take 3 (some 69) ?_ rfl rfl (by kernel_rfl) (by kernel_rfl) (by kernel_rfl) (fun _ _ _ h => h) (by assumption) (by rfl) ?_ ?_
          rotate_left
          · intro w hSw
            try dsimp only at hSw
            try simp only [List.getElem_toArray, List.getElem_cons_succ, List.getElem_cons_zero]
            go_simp
            try with_reducible rfl
          try simp only [Act.put, List.setIfInBounds_toArray, List.set_cons_zero, List.set_cons_succ]
          refine held_take 4 (some 70) ?_ rfl rfl (by kernel_rfl) (by kernel_rfl) (by kernel_rfl) (fun _ _ _ h => h) (by assumption) (by rfl) ?_ ?_
          rotate_left
          · intro w hSw
            try dsimp only at hSw
            try simp only [List.getElem_toArray, List.getElem_cons_succ, List.getElem_cons_zero]
            go_simp
            try with_reducible rfl
          try simp only [Act.put, List.setIfInBounds_toArray, List.set_cons_zero, List.set_cons_succ]
          refine held_take 5 (some 71) ?_ rfl rfl (by kernel_rfl) (by kernel_rfl) (by kernel_rfl) (fun _ _ _ h => h) (by assumption) (by rfl) ?_ ?_
          rotate_left
          · intro w hSw
            try dsimp only at hSw
            try simp only [List.getElem_toArray, List.getElem_cons_succ, List.getElem_cons_zero]
            go_simp
            try with_reducible rfl
          try simp only [Act.put, List.setIfInBounds_toArray, List.set_cons_zero, List.set_cons_succ]
          refine held_take 6 (some 72) ?_ rfl rfl (by kernel_rfl) (by kernel_rfl) (by kernel_rfl) (fun _ _ _ h => h) (by assumption) (by rfl) ?_ ?_
          rotate_left
          · intro w hSw
            try dsimp only at hSw
            try simp only [List.getElem_toArray, List.getElem_cons_succ, List.getElem_cons_zero]
            go_simp
            try with_reducible rfl
          try simp only [Act.put, List.setIfInBounds_toArray, List.set_cons_zero, List.set_cons_succ]
          refine held_take 7 (some 73) ?_ rfl rfl (by kernel_rfl) (by kernel_rfl) (by kernel_rfl) (fun _ _ _ h => h) (by assumption) (by rfl) ?_ ?_
          rotate_left
          · intro w hSw
            try dsimp only at hSw
            try simp only [List.getElem_toArray, List.getElem_cons_succ, List.getElem_cons_zero]
            go_simp
            try with_reducible rfl
          try simp only [Act.put, List.setIfInBounds_toArray, List.set_cons_zero, List.set_cons_succ]
          refine held_take 8 (some 74) ?_ rfl rfl (by kernel_rfl) (by kernel_rfl) (by kernel_rfl) (fun _ _ _ h => h) (by assumption) (by rfl) ?_ ?_
          rotate_left
          · intro w hSw
            try dsimp only at hSw
            try simp only [List.getElem_toArray, List.getElem_cons_succ, List.getElem_cons_zero]
            go_simp
            try with_reducible rfl
          try simp only [Act.put, List.setIfInBounds_toArray, List.set_cons_zero, List.set_cons_succ]
          refine held_take 9 (some 75) ?_ rfl rfl (by kernel_rfl) (by kernel_rfl) (by kernel_rfl) (fun _ _ _ h => h) (by assumption) (by rfl) ?_ ?_
          rotate_left
          · intro w hSw
            try dsimp only at hSw
            try simp only [List.getElem_toArray, List.getElem_cons_succ, List.getElem_cons_zero]
            go_simp
            try with_reducible rfl
          try simp only [Act.put, List.setIfInBounds_toArray, List.set_cons_zero, List.set_cons_succ]
          refine held_take 10 (some 76) ?_ rfl rfl (by kernel_rfl) (by kernel_rfl) (by kernel_rfl) (fun _ _ _ h => h) (by assumption) (by rfl) ?_ ?_
          rotate_left
          · intro w hSw
            try dsimp only at hSw
            try simp only [List.getElem_toArray, List.getElem_cons_succ, List.getElem_cons_zero]
            go_simp
            try with_reducible rfl
          try simp only [Act.put, List.setIfInBounds_toArray, List.set_cons_zero, List.set_cons_succ]
          refine held_take 11 (some 77) ?_ rfl rfl (by kernel_rfl) (by kernel_rfl) (by kernel_rfl) (fun _ _ _ h => h) (by assumption) (by rfl) ?_ ?_
          rotate_left
          · intro w hSw
            try dsimp only at hSw
            try simp only [List.getElem_toArray, List.getElem_cons_succ, List.getElem_cons_zero]
            go_simp
            try with_reducible rfl
          try simp only [Act.put, List.setIfInBounds_toArray, List.set_cons_zero, List.set_cons_succ]
          refine held_take 12 (some 78) ?_ rfl rfl (by kernel_rfl) (by kernel_rfl) (by kernel_rfl) (fun _ _ _ h => h) (by assumption) (by rfl) ?_ ?_
          rotate_left
          · intro w hSw
            try dsimp only at hSw
            try simp only [List.getElem_toArray, List.getElem_cons_succ, List.getElem_cons_zero]
            go_simp
            try with_reducible rfl
          try simp only [Act.put, List.setIfInBounds_toArray, List.set_cons_zero, List.set_cons_succ]
          refine held_take 13 (some 79) ?_ rfl rfl (by kernel_rfl) (by kernel_rfl) (by kernel_rfl) (fun _ _ _ h => h) (by assumption) (by rfl) ?_ ?_
          rotate_left
          · intro w hSw
            try dsimp only at hSw
            try simp only [List.getElem_toArray, List.getElem_cons_succ, List.getElem_cons_zero]
            go_simp
            try with_reducible rfl
          try simp only [Act.put, List.setIfInBounds_toArray, List.set_cons_zero, List.set_cons_succ]
          refine held_take 14 (some 80) ?_ rfl rfl (by kernel_rfl) (by kernel_rfl) (by kernel_rfl) (fun _ _ _ h => h) (by assumption) (by rfl) ?_ ?_
          rotate_left
          · intro w hSw
            try dsimp only at hSw
            try simp only [List.getElem_toArray, List.getElem_cons_succ, List.getElem_cons_zero]
            go_simp
            try with_reducible rfl
          try simp only [Act.put, List.setIfInBounds_toArray, List.set_cons_zero, List.set_cons_succ]
          refine held_take 16 (some 82) ?_ rfl rfl (by kernel_rfl) (by kernel_rfl) (by kernel_rfl) (fun _ _ _ h => h) (by assumption) (by rfl) ?_ ?_
          rotate_left
          · intro w hSw
            try dsimp only at hSw
            try simp only [List.getElem_toArray, List.getElem_cons_succ, List.getElem_cons_zero]
            go_simp
            try with_reducible rfl
          try simp only [Act.put, List.setIfInBounds_toArray, List.set_cons_zero, List.set_cons_succ]
          refine held_take 17 (some 83) ?_ rfl rfl (by kernel_rfl) (by kernel_rfl) (by kernel_rfl) (fun _ _ _ h => h) (by assumption) (by rfl) ?_ ?_
          rotate_left
          · intro w hSw
            try dsimp only at hSw
            try simp only [List.getElem_toArray, List.getElem_cons_succ, List.getElem_cons_zero]
            go_simp
            try with_reducible rfl
          try simp only [Act.put, List.setIfInBounds_toArray, List.set_cons_zero, List.set_cons_succ]
          refine held_take 18 (some 84) ?_ rfl rfl (by kernel_rfl) (by kernel_rfl) (by kernel_rfl) (fun _ _ _ h => h) (by assumption) (by rfl) ?_ ?_
          rotate_left
          · intro w hSw
            try dsimp only at hSw
            try simp only [List.getElem_toArray, List.getElem_cons_succ, List.getElem_cons_zero]
            go_simp
            try with_reducible rfl
          try simp only [Act.put, List.setIfInBounds_toArray, List.set_cons_zero, List.set_cons_succ]
          refine wpAnyH_ready (rs := [15, 19]) (by kernel_rfl) (by simp) ?_
          refine AllReadyH.cons rfl (fun K hK => ?_) (AllReadyH.cons rfl (fun K hK => ?_) AllReadyH.nil)
          · try simp only [List.getElem_toArray, List.getElem_cons_succ, List.getElem_cons_zero]
            go_simp
            refine hK.out _ _ hHeld (fun hHeld => ?_)
            clear hK K
            try simp only [Act.put, List.setIfInBounds_toArray, List.set_cons_zero, List.set_cons_succ]
            refine wpAnyH_ready (rs := [19]) (by kernel_rfl) (by simp) ?_
            refine AllReadyH.cons rfl (fun K hK => ?_) AllReadyH.nil
            try simp only [List.getElem_toArray, List.getElem_cons_succ, List.getElem_cons_zero]
            go_simp
            refine hK.out _ _ hHeld (fun hHeld => ?_)
            clear hK K
            try simp only [Act.put, List.setIfInBounds_toArray, List.set_cons_zero, List.set_cons_succ]
            refine held_take 20 (some 86) ?_ rfl rfl (by kernel_rfl) (by kernel_rfl) (by kernel_rfl) (fun _ _ _ h => h) (by assumption) (by rfl) ?_ ?_
            rotate_left
            · intro w hSw
              try dsimp only at hSw
              try simp only [List.getElem_toArray, List.getElem_cons_succ, List.getElem_cons_zero]
              go_simp
              try with_reducible rfl
            try simp only [Act.put, List.setIfInBounds_toArray, List.set_cons_zero, List.set_cons_succ]
            refine wpAnyH_ready (rs := [21]) (by kernel_rfl) (by simp) ?_
            refine AllReadyH.cons rfl (fun K hK => ?_) AllReadyH.nil
            try simp only [List.getElem_toArray, List.getElem_cons_succ, List.getElem_cons_zero]
            go_simp
            refine hK.out _ _ (by simp only [drew_cell, sc_far lt5]; exact q6) (fun hHeld => ?_)
            clear hK K
            try simp only [Act.put, List.setIfInBounds_toArray, List.set_cons_zero, List.set_cons_succ]
            refine held_take 22 (some 87) ?_ rfl rfl (by kernel_rfl) (by kernel_rfl) (by kernel_rfl) (fun _ _ _ h => h) (by assumption) (by rfl) ?_ ?_
            rotate_left
            · intro w hSw
              try dsimp only at hSw
              try simp only [List.getElem_toArray, List.getElem_cons_succ, List.getElem_cons_zero]
              go_simp
              try with_reducible rfl
            try simp only [Act.put, List.setIfInBounds_toArray, List.set_cons_zero, List.set_cons_succ]
            refine wpAnyH_ready (rs := [23]) (by kernel_rfl) (by simp) ?_
            refine AllReadyH.cons rfl (fun K hK => ?_) AllReadyH.nil
            try simp only [List.getElem_toArray, List.getElem_cons_succ, List.getElem_cons_zero]
            go_simp
            refine hK.out _ _ (by simp only [drew_cell, sc_far lt5]; exact q6) (fun hHeld => ?_)
            clear hK K
            try simp only [Act.put, List.setIfInBounds_toArray, List.set_cons_zero, List.set_cons_succ]
            refine wpAnyH_done (by kernel_rfl) ?_ _
            have XW := XS1.out.swap HI.out HA0.out HB0.out HA0.out.wf (W' := put7 g (N * 7) (.int .u8 l0.kind) (.string (bs l0.dep.name)) (.int .u8 l0.dep.op) (.int .i64 l0.dep.evr.epoch) (.string (bs l0.dep.evr.ver)) (.string (bs l0.dep.evr.rel)) (.slice l0.addr l0.args.length l0.cap) (put7 g (0) (.int .u8 b.kind) (.string (bs b.dep.name)) (.int .u8 b.dep.op) (.int .i64 b.dep.evr.epoch) (.string (bs b.dep.evr.ver)) (.string (bs b.dep.evr.rel)) (.slice b.addr b.args.length b.cap) w10)) (by rw [HN.out])
            obtain ⟨w11, hw11⟩ : ∃ w11, w11 = (put7 g (N * 7) (.int .u8 l0.kind) (.string (bs l0.dep.name)) (.int .u8 l0.dep.op) (.int .i64 l0.dep.evr.epoch) (.string (bs l0.dep.evr.ver)) (.string (bs l0.dep.evr.rel)) (.slice l0.addr l0.args.length l0.cap) (put7 g (0) (.int .u8 b.kind) (.string (bs b.dep.name)) (.int .u8 b.dep.op) (.int .i64 b.dep.evr.epoch) (.string (bs b.dep.evr.ver)) (.string (bs b.dep.evr.rel)) (.slice b.addr b.args.length b.cap) w10)) := ⟨_, rfl⟩
            change Exit.then _ _ Exit.normal _ (World.drew (put7 g (N * 7) (.int .u8 l0.kind) (.string (bs l0.dep.name)) (.int .u8 l0.dep.op) (.int .i64 l0.dep.evr.epoch) (.string (bs l0.dep.evr.ver)) (.string (bs l0.dep.evr.rel)) (.slice l0.addr l0.args.length l0.cap) (put7 g (0) (.int .u8 b.kind) (.string (bs b.dep.name)) (.int .u8 b.dep.op) (.int .i64 b.dep.evr.epoch) (.string (bs b.dep.evr.ver)) (.string (bs b.dep.evr.rel)) (.slice b.addr b.args.length b.cap) w10)))
            rw [← hw11] at XW ⊢
            have XD : TwoX w a b w.heap.size (w.heap.size + 1) w11.drew ∧ BX (.node a.kind a.dep (some ⟨g, 0, none⟩) cc (b :: (l1 ++ [l0]))) w8.heap.size w11.drew := ⟨XW.1.then (Below.refl _ _).drew, XW.2.then (Below.refl _ _).drew⟩
            generalize w11.drew = w12 at XD ⊢
            generalize w8.heap.size = m at *
            obtain ⟨x, hx⟩ : ∃ x : RV, x = .node a.kind a.dep (some ⟨g, 0, none⟩) cc (b :: (l1 ++ [l0])) := ⟨_, rfl⟩
            rw [← hx] at XD
            have hxa : x.args = b :: (l1 ++ [l0]) := by rw [hx]; rfl
            have hxn : x.args.length = N + 1 := by rw [hxa]; simp; exact HN.out.symm
            have hx2 : x = .node a.kind a.dep (some ⟨g, 0, none⟩) cc x.args := by rw [hxa]; exact hx
            have SP := mk_pp hx2 hxn XD.1 XD.2
            have hat : a.tree = .mk a.kind a.dep (l0.tree :: treeL l1) := by rw [HAT.out, ← HTL.out]; rfl
            have hb1 := atom_parts HWB.out (by rw [HBT.out, HKB.out])
            have hxt : x.tree = .mk a.kind a.dep (b.tree :: (treeL l1 ++ [l0.tree])) := by rw [hx]; simp only [RV.tree, treeL, treeL_app]
            have hwh : x.tree.whole = decide (a.tree.parts + 1 ≤ 24) := by rw [hxt, hat]; exact whole_more (by rw [← hat]; exact HWA.out) HKK.out HWB.out hb1
            have hxp : x.tree.parts = a.tree.parts + 1 := by rw [hxt, hat]; exact more_parts hb1.1
            have hp1 := P1.out
            have CW := Lib.hid (fun W (h : TwoX w a b w.heap.size (w.heap.size + 1) W ∧ BX x m W) => rwhole_any x W (by omega) h.2.tree h.1.ri)
            have CN := Lib.hid (fun W (h : TwoX w a b w.heap.size (w.heap.size + 1) W ∧ BX x m W) => rnodes_any a.ht a W (Nat.le_refl _) (by omega) h.1.xa.tree)
            rw [hwh] at CW
            rw [show x.val = .agg #[.int .u8 a.kind, .string (bs a.dep.name), .int .u8 a.dep.op, .int .i64 a.dep.evr.epoch, .string (bs a.dep.evr.ver), .string (bs a.dep.evr.rel), .slice (some ⟨g, 0, none⟩) (N + 1) cc] by unfold RV.val; rw [hxn, hx]; rfl] at CW
            unfold RV.val at CN
            clear XW hw11 hat hb1 hxt hwh hxp HKK HWA HWB HKB HTL hxa XD hx XS1 q6 a0 a1 a2 a3 a4 a5 a6 b0 b1 b2 b3 b4 b5 b6 hfz hfm hqd hHeld lt1 lt2 lt3 lt4 lt5 lm n0 n1 n2 n3 n4 n5 HAT HBT HAA HI HA0 HB0
            have XX2 := Lib.hid hx2
            have XXN := Lib.hid hxn
            clear hx2 hxn
            generalize a.tree.parts = pa at *
            have hw1 : IntKind.i64.wrap ((pa : Int) + 1) = (pa : Int) + 1 := IntWalk.i64_in _ (by omega)
            by_cases hp : pa + 1 ≤ 24
            · rw [decide_eq_true hp] at CW
              have hp2 : (pa : Int) + 1 ≤ 24 := by omega
              clear hp
              go_wp2_with fail
              go_region_held3 (fun W => W.cell? ⟨m, 0, none⟩ = some (.int .u8 a.kind) ∧ W.cell? ⟨m, 1, none⟩ = some (.string (bs a.dep.name)) ∧ W.cell? ⟨m, 2, none⟩ = some (.int .u8 a.dep.op) ∧ W.cell? ⟨m, 3, none⟩ = some (.int .i64 a.dep.evr.epoch) ∧ W.cell? ⟨m, 4, none⟩ = some (.string (bs a.dep.evr.ver)) ∧ W.cell? ⟨m, 5, none⟩ = some (.string (bs a.dep.evr.rel)) ∧ W.cell? ⟨m, 6, none⟩ = some (.slice (some ⟨g, 0, none⟩) (N + 1) cc) ∧ W.cell? ⟨w.heap.size, 0, none⟩ = some (.int .u8 a.kind) ∧ W.cell? ⟨w.heap.size, 1, none⟩ = some (.string (bs a.dep.name)) ∧ W.cell? ⟨w.heap.size, 2, none⟩ = some (.int .u8 a.dep.op) ∧ W.cell? ⟨w.heap.size, 3, none⟩ = some (.int .i64 a.dep.evr.epoch) ∧ W.cell? ⟨w.heap.size, 4, none⟩ = some (.string (bs a.dep.evr.ver)) ∧ W.cell? ⟨w.heap.size, 5, none⟩ = some (.string (bs a.dep.evr.rel)) ∧ W.cell? ⟨w.heap.size, 6, none⟩ = some (.slice a.addr a.args.length a.cap) ∧ Hid (TwoX w a b w.heap.size (w.heap.size + 1) W) ∧ Hid (BX x m W)) (first | exact keep_pp XX2.out XXN.out (by assumption) hbb | exact keep_pp XX2.out XXN.out SP (Below.refl _ _).drew) (first | (go_at_call 11; ((with_reducible refine (CW.out _ (tail_pp (by assumption))).mono ?_); rintro e' w' ⟨rfl, hbb⟩)) | (go_at_call 15; ((with_reducible refine (CN.out _ (tail_pp (by assumption))).mono ?_); rintro e' w' ⟨rfl, hbb⟩)))
              all_goals
                have hT := (tail_pp (by assumption)).1.old
                go_wp2
                go_ret
                exact ⟨rfl, hT⟩
            · rw [decide_eq_false hp] at CW
              have hp2 : ¬ (pa : Int) + 1 ≤ 24 := by omega
              clear hp
              go_wp2_with fail
              go_region_held3 (fun W => W.cell? ⟨m, 0, none⟩ = some (.int .u8 a.kind) ∧ W.cell? ⟨m, 1, none⟩ = some (.string (bs a.dep.name)) ∧ W.cell? ⟨m, 2, none⟩ = some (.int .u8 a.dep.op) ∧ W.cell? ⟨m, 3, none⟩ = some (.int .i64 a.dep.evr.epoch) ∧ W.cell? ⟨m, 4, none⟩ = some (.string (bs a.dep.evr.ver)) ∧ W.cell? ⟨m, 5, none⟩ = some (.string (bs a.dep.evr.rel)) ∧ W.cell? ⟨m, 6, none⟩ = some (.slice (some ⟨g, 0, none⟩) (N + 1) cc) ∧ W.cell? ⟨w.heap.size, 0, none⟩ = some (.int .u8 a.kind) ∧ W.cell? ⟨w.heap.size, 1, none⟩ = some (.string (bs a.dep.name)) ∧ W.cell? ⟨w.heap.size, 2, none⟩ = some (.int .u8 a.dep.op) ∧ W.cell? ⟨w.heap.size, 3, none⟩ = some (.int .i64 a.dep.evr.epoch) ∧ W.cell? ⟨w.heap.size, 4, none⟩ = some (.string (bs a.dep.evr.ver)) ∧ W.cell? ⟨w.heap.size, 5, none⟩ = some (.string (bs a.dep.evr.rel)) ∧ W.cell? ⟨w.heap.size, 6, none⟩ = some (.slice a.addr a.args.length a.cap) ∧ Hid (TwoX w a b w.heap.size (w.heap.size + 1) W) ∧ Hid (BX x m W)) (first | exact keep_pp XX2.out XXN.out (by assumption) hbb | exact keep_pp XX2.out XXN.out SP (Below.refl _ _).drew) (first | (go_at_call 11; ((with_reducible refine (CW.out _ (tail_pp (by assumption))).mono ?_); rintro e' w' ⟨rfl, hbb⟩)) | (go_at_call 15; ((with_reducible refine (CN.out _ (tail_pp (by assumption))).mono ?_); rintro e' w' ⟨rfl, hbb⟩)))
              all_goals
                have hT := (tail_pp (by assumption)).1.old
                go_wp2
                go_ret
                exact ⟨congrArg (fun q => Ending.returned (.bool q)) (by simp; omega), hT⟩
          · try simp only [List.getElem_toArray, List.getElem_cons_succ, List.getElem_cons_zero]
            go_simp
            refine hK.out _ _ hHeld (fun hHeld => ?_)
            clear hK K
            try simp only [Act.put, List.setIfInBounds_toArray, List.set_cons_zero, List.set_cons_succ]
            refine wpAnyH_ready (rs := [15]) (by kernel_rfl) (by simp) ?_
            refine AllReadyH.cons rfl (fun K hK => ?_) AllReadyH.nil
            try simp only [List.getElem_toArray, List.getElem_cons_succ, List.getElem_cons_zero]
            go_simp
            refine hK.out _ _ hHeld (fun hHeld => ?_)
            clear hK K
            try simp only [Act.put, List.setIfInBounds_toArray, List.set_cons_zero, List.set_cons_succ]
            refine held_take 20 (some 86) ?_ rfl rfl (by kernel_rfl) (by kernel_rfl) (by kernel_rfl) (fun _ _ _ h => h) (by assumption) (by rfl) ?_ ?_
            rotate_left
            · intro w hSw
              try dsimp only at hSw
              try simp only [List.getElem_toArray, List.getElem_cons_succ, List.getElem_cons_zero]
              go_simp
              try with_reducible rfl
            try simp only [Act.put, List.setIfInBounds_toArray, List.set_cons_zero, List.set_cons_succ]
            refine wpAnyH_ready (rs := [21]) (by kernel_rfl) (by simp) ?_
            refine AllReadyH.cons rfl (fun K hK => ?_) AllReadyH.nil
            try simp only [List.getElem_toArray, List.getElem_cons_succ, List.getElem_cons_zero]
            go_simp
            refine hK.out _ _ (by simp only [drew_cell, sc_far lt5]; exact q6) (fun hHeld => ?_)
            clear hK K
            try simp only [Act.put, List.setIfInBounds_toArray, List.set_cons_zero, List.set_cons_succ]
            refine held_take 22 (some 87) ?_ rfl rfl (by kernel_rfl) (by kernel_rfl) (by kernel_rfl) (fun _ _ _ h => h) (by assumption) (by rfl) ?_ ?_
            rotate_left
            · intro w hSw
              try dsimp only at hSw
              try simp only [List.getElem_toArray, List.getElem_cons_succ, List.getElem_cons_zero]
              go_simp
              try with_reducible rfl
            try simp only [Act.put, List.setIfInBounds_toArray, List.set_cons_zero, List.set_cons_succ]
            refine wpAnyH_ready (rs := [23]) (by kernel_rfl) (by simp) ?_
            refine AllReadyH.cons rfl (fun K hK => ?_) AllReadyH.nil
            try simp only [List.getElem_toArray, List.getElem_cons_succ, List.getElem_cons_zero]
            go_simp
            refine hK.out _ _ (by simp only [drew_cell, sc_far lt5]; exact q6) (fun hHeld => ?_)
            clear hK K
            try simp only [Act.put, List.setIfInBounds_toArray, List.set_cons_zero, List.set_cons_succ]
            refine wpAnyH_done (by kernel_rfl) ?_ _
            have XW := XS1.out.swap HI.out HA0.out HB0.out HA0.out.wf (W' := put7 g (N * 7) (.int .u8 l0.kind) (.string (bs l0.dep.name)) (.int .u8 l0.dep.op) (.int .i64 l0.dep.evr.epoch) (.string (bs l0.dep.evr.ver)) (.string (bs l0.dep.evr.rel)) (.slice l0.addr l0.args.length l0.cap) (put7 g (0) (.int .u8 b.kind) (.string (bs b.dep.name)) (.int .u8 b.dep.op) (.int .i64 b.dep.evr.epoch) (.string (bs b.dep.evr.ver)) (.string (bs b.dep.evr.rel)) (.slice b.addr b.args.length b.cap) w10)) (by rw [HN.out])
            obtain ⟨w11, hw11⟩ : ∃ w11, w11 = (put7 g (N * 7) (.int .u8 l0.kind) (.string (bs l0.dep.name)) (.int .u8 l0.dep.op) (.int .i64 l0.dep.evr.epoch) (.string (bs l0.dep.evr.ver)) (.string (bs l0.dep.evr.rel)) (.slice l0.addr l0.args.length l0.cap) (put7 g (0) (.int .u8 b.kind) (.string (bs b.dep.name)) (.int .u8 b.dep.op) (.int .i64 b.dep.evr.epoch) (.string (bs b.dep.evr.ver)) (.string (bs b.dep.evr.rel)) (.slice b.addr b.args.length b.cap) w10)) := ⟨_, rfl⟩
            change Exit.then _ _ Exit.normal _ (World.drew (put7 g (N * 7) (.int .u8 l0.kind) (.string (bs l0.dep.name)) (.int .u8 l0.dep.op) (.int .i64 l0.dep.evr.epoch) (.string (bs l0.dep.evr.ver)) (.string (bs l0.dep.evr.rel)) (.slice l0.addr l0.args.length l0.cap) (put7 g (0) (.int .u8 b.kind) (.string (bs b.dep.name)) (.int .u8 b.dep.op) (.int .i64 b.dep.evr.epoch) (.string (bs b.dep.evr.ver)) (.string (bs b.dep.evr.rel)) (.slice b.addr b.args.length b.cap) w10)))
            rw [← hw11] at XW ⊢
            have XD : TwoX w a b w.heap.size (w.heap.size + 1) w11.drew ∧ BX (.node a.kind a.dep (some ⟨g, 0, none⟩) cc (b :: (l1 ++ [l0]))) w8.heap.size w11.drew := ⟨XW.1.then (Below.refl _ _).drew, XW.2.then (Below.refl _ _).drew⟩
            generalize w11.drew = w12 at XD ⊢
            generalize w8.heap.size = m at *
            obtain ⟨x, hx⟩ : ∃ x : RV, x = .node a.kind a.dep (some ⟨g, 0, none⟩) cc (b :: (l1 ++ [l0])) := ⟨_, rfl⟩
            rw [← hx] at XD
            have hxa : x.args = b :: (l1 ++ [l0]) := by rw [hx]; rfl
            have hxn : x.args.length = N + 1 := by rw [hxa]; simp; exact HN.out.symm
            have hx2 : x = .node a.kind a.dep (some ⟨g, 0, none⟩) cc x.args := by rw [hxa]; exact hx
            have SP := mk_pp hx2 hxn XD.1 XD.2
            have hat : a.tree = .mk a.kind a.dep (l0.tree :: treeL l1) := by rw [HAT.out, ← HTL.out]; rfl
            have hb1 := atom_parts HWB.out (by rw [HBT.out, HKB.out])
            have hxt : x.tree = .mk a.kind a.dep (b.tree :: (treeL l1 ++ [l0.tree])) := by rw [hx]; simp only [RV.tree, treeL, treeL_app]
            have hwh : x.tree.whole = decide (a.tree.parts + 1 ≤ 24) := by rw [hxt, hat]; exact whole_more (by rw [← hat]; exact HWA.out) HKK.out HWB.out hb1
            have hxp : x.tree.parts = a.tree.parts + 1 := by rw [hxt, hat]; exact more_parts hb1.1
            have hp1 := P1.out
            have CW := Lib.hid (fun W (h : TwoX w a b w.heap.size (w.heap.size + 1) W ∧ BX x m W) => rwhole_any x W (by omega) h.2.tree h.1.ri)
            have CN := Lib.hid (fun W (h : TwoX w a b w.heap.size (w.heap.size + 1) W ∧ BX x m W) => rnodes_any a.ht a W (Nat.le_refl _) (by omega) h.1.xa.tree)
            rw [hwh] at CW
            rw [show x.val = .agg #[.int .u8 a.kind, .string (bs a.dep.name), .int .u8 a.dep.op, .int .i64 a.dep.evr.epoch, .string (bs a.dep.evr.ver), .string (bs a.dep.evr.rel), .slice (some ⟨g, 0, none⟩) (N + 1) cc] by unfold RV.val; rw [hxn, hx]; rfl] at CW
            unfold RV.val at CN
            clear XW hw11 hat hb1 hxt hwh hxp HKK HWA HWB HKB HTL hxa XD hx XS1 q6 a0 a1 a2 a3 a4 a5 a6 b0 b1 b2 b3 b4 b5 b6 hfz hfm hqd hHeld lt1 lt2 lt3 lt4 lt5 lm n0 n1 n2 n3 n4 n5 HAT HBT HAA HI HA0 HB0
            have XX2 := Lib.hid hx2
            have XXN := Lib.hid hxn
            clear hx2 hxn
            generalize a.tree.parts = pa at *
            have hw1 : IntKind.i64.wrap ((pa : Int) + 1) = (pa : Int) + 1 := IntWalk.i64_in _ (by omega)
            by_cases hp : pa + 1 ≤ 24
            · rw [decide_eq_true hp] at CW
              have hp2 : (pa : Int) + 1 ≤ 24 := by omega
              clear hp
              go_wp2_with fail
              go_region_held3 (fun W => W.cell? ⟨m, 0, none⟩ = some (.int .u8 a.kind) ∧ W.cell? ⟨m, 1, none⟩ = some (.string (bs a.dep.name)) ∧ W.cell? ⟨m, 2, none⟩ = some (.int .u8 a.dep.op) ∧ W.cell? ⟨m, 3, none⟩ = some (.int .i64 a.dep.evr.epoch) ∧ W.cell? ⟨m, 4, none⟩ = some (.string (bs a.dep.evr.ver)) ∧ W.cell? ⟨m, 5, none⟩ = some (.string (bs a.dep.evr.rel)) ∧ W.cell? ⟨m, 6, none⟩ = some (.slice (some ⟨g, 0, none⟩) (N + 1) cc) ∧ W.cell? ⟨w.heap.size, 0, none⟩ = some (.int .u8 a.kind) ∧ W.cell? ⟨w.heap.size, 1, none⟩ = some (.string (bs a.dep.name)) ∧ W.cell? ⟨w.heap.size, 2, none⟩ = some (.int .u8 a.dep.op) ∧ W.cell? ⟨w.heap.size, 3, none⟩ = some (.int .i64 a.dep.evr.epoch) ∧ W.cell? ⟨w.heap.size, 4, none⟩ = some (.string (bs a.dep.evr.ver)) ∧ W.cell? ⟨w.heap.size, 5, none⟩ = some (.string (bs a.dep.evr.rel)) ∧ W.cell? ⟨w.heap.size, 6, none⟩ = some (.slice a.addr a.args.length a.cap) ∧ Hid (TwoX w a b w.heap.size (w.heap.size + 1) W) ∧ Hid (BX x m W)) (first | exact keep_pp XX2.out XXN.out (by assumption) hbb | exact keep_pp XX2.out XXN.out SP (Below.refl _ _).drew) (first | (go_at_call 11; ((with_reducible refine (CW.out _ (tail_pp (by assumption))).mono ?_); rintro e' w' ⟨rfl, hbb⟩)) | (go_at_call 15; ((with_reducible refine (CN.out _ (tail_pp (by assumption))).mono ?_); rintro e' w' ⟨rfl, hbb⟩)))
              all_goals
                have hT := (tail_pp (by assumption)).1.old
                go_wp2
                go_ret
                exact ⟨rfl, hT⟩
            · rw [decide_eq_false hp] at CW
              have hp2 : ¬ (pa : Int) + 1 ≤ 24 := by omega
              clear hp
              go_wp2_with fail
              go_region_held3 (fun W => W.cell? ⟨m, 0, none⟩ = some (.int .u8 a.kind) ∧ W.cell? ⟨m, 1, none⟩ = some (.string (bs a.dep.name)) ∧ W.cell? ⟨m, 2, none⟩ = some (.int .u8 a.dep.op) ∧ W.cell? ⟨m, 3, none⟩ = some (.int .i64 a.dep.evr.epoch) ∧ W.cell? ⟨m, 4, none⟩ = some (.string (bs a.dep.evr.ver)) ∧ W.cell? ⟨m, 5, none⟩ = some (.string (bs a.dep.evr.rel)) ∧ W.cell? ⟨m, 6, none⟩ = some (.slice (some ⟨g, 0, none⟩) (N + 1) cc) ∧ W.cell? ⟨w.heap.size, 0, none⟩ = some (.int .u8 a.kind) ∧ W.cell? ⟨w.heap.size, 1, none⟩ = some (.string (bs a.dep.name)) ∧ W.cell? ⟨w.heap.size, 2, none⟩ = some (.int .u8 a.dep.op) ∧ W.cell? ⟨w.heap.size, 3, none⟩ = some (.int .i64 a.dep.evr.epoch) ∧ W.cell? ⟨w.heap.size, 4, none⟩ = some (.string (bs a.dep.evr.ver)) ∧ W.cell? ⟨w.heap.size, 5, none⟩ = some (.string (bs a.dep.evr.rel)) ∧ W.cell? ⟨w.heap.size, 6, none⟩ = some (.slice a.addr a.args.length a.cap) ∧ Hid (TwoX w a b w.heap.size (w.heap.size + 1) W) ∧ Hid (BX x m W)) (first | exact keep_pp XX2.out XXN.out (by assumption) hbb | exact keep_pp XX2.out XXN.out SP (Below.refl _ _).drew) (first | (go_at_call 11; ((with_reducible refine (CW.out _ (tail_pp (by assumption))).mono ?_); rintro e' w' ⟨rfl, hbb⟩)) | (go_at_call 15; ((with_reducible refine (CN.out _ (tail_pp (by assumption))).mono ?_); rintro e' w' ⟨rfl, hbb⟩)))
              all_goals
                have hT := (tail_pp (by assumption)).1.old
                go_wp2
                go_ret
                exact ⟨congrArg (fun q => Ending.returned (.bool q)) (by simp; omega), hT⟩
end Go.Proofs.YtpnnhhgojijlbaaDoor
