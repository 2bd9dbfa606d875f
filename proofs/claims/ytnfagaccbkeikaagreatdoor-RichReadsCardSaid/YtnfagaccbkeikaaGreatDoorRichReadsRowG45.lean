/- RichAwake -/
import Derived.Test.YtnfagaccbkeikaaGreatDoorRichReadsRowG41
import Derived.Test.YtnfagaccbkeikaaGreatDoorRichReadsRowG44
import Derived.Test.YtnfagaccbkeikaaGreatDoorRichReadsRowG31
import Derived.Deep.RegionHeld3
/- Walks: the examples of the statements of rich (chandlerylaw08.awake). -/





namespace Go.Proofs.YtnfagaccbkeikaaGreatDoor
open Go.RowKit Go.Shelf
set_option linter.unusedVariables false

theorem parse_yes (l : Bytes) (t : RT) (h : parseL l = (some t, 0, 0)) (hl : l.length ≤ maxLen) (W : World) (hW : RichIn W) : Calls Tryz.prog 11 #[.string (bs l)] W fun e w' => ∃ rv : RV, rv.tree = t ∧ e = .returned (.tuple #[rv.val, .int .i64 0, .int .i64 0]) ∧ RTree w'.heap.size w' rv ∧ Below W.heap.size W w' := by
  have hp := rparse_any (bs l) W (by rw [bs_size]; exact hl) hW
  unfold ParsePost at hp
  rw [bs_toList, h] at hp
  exact hp
theorem parse_no (l : Bytes) (p : Nat) (n : Int) (h : parseL l = (none, p, n)) (hl : l.length ≤ maxLen) (W : World) (hW : RichIn W) : Calls Tryz.prog 11 #[.string (bs l)] W fun e w' => ∃ rv : RV, rv.tree = zeroRT ∧ e = .returned (.tuple #[rv.val, .int .i64 (p : Int), .int .i64 n]) ∧ RTree w'.heap.size w' rv ∧ Below W.heap.size W w' := by
  have hp := rparse_any (bs l) W (by rw [bs_size]; exact hl) hW
  unfold ParsePost at hp
  rw [bs_toList, h] at hp
  exact hp
theorem keep_aw {m n : Nat} {rv : RV} {w W W' : World} (h : W.cell? ⟨m, 0, none⟩ = some (.int .u8 1) ∧ W.cell? ⟨m, 1, none⟩ = some (.string ⟨#[98]⟩) ∧ W.cell? ⟨m, 2, none⟩ = some (.int .u8 6) ∧ W.cell? ⟨m, 3, none⟩ = some (.int .i64 0) ∧ W.cell? ⟨m, 4, none⟩ = some (.string ⟨#[49]⟩) ∧ W.cell? ⟨m, 5, none⟩ = some (.string ⟨#[]⟩) ∧ W.cell? ⟨m, 6, none⟩ = some (.slice none 0 0) ∧ W.cell? ⟨n, 0, none⟩ = some (.int .u8 rv.kind) ∧ W.cell? ⟨n, 1, none⟩ = some (.string (bs rv.dep.name)) ∧ W.cell? ⟨n, 2, none⟩ = some (.int .u8 rv.dep.op) ∧ W.cell? ⟨n, 3, none⟩ = some (.int .i64 rv.dep.evr.epoch) ∧ W.cell? ⟨n, 4, none⟩ = some (.string (bs rv.dep.evr.ver)) ∧ W.cell? ⟨n, 5, none⟩ = some (.string (bs rv.dep.evr.rel)) ∧ W.cell? ⟨n, 6, none⟩ = some (.slice rv.addr rv.args.length rv.cap) ∧ m < W.heap.size ∧ n < W.heap.size ∧ RTree W.heap.size W rv ∧ Below m w W) (hb : Below W.heap.size W W') : W'.cell? ⟨m, 0, none⟩ = some (.int .u8 1) ∧ W'.cell? ⟨m, 1, none⟩ = some (.string ⟨#[98]⟩) ∧ W'.cell? ⟨m, 2, none⟩ = some (.int .u8 6) ∧ W'.cell? ⟨m, 3, none⟩ = some (.int .i64 0) ∧ W'.cell? ⟨m, 4, none⟩ = some (.string ⟨#[49]⟩) ∧ W'.cell? ⟨m, 5, none⟩ = some (.string ⟨#[]⟩) ∧ W'.cell? ⟨m, 6, none⟩ = some (.slice none 0 0) ∧ W'.cell? ⟨n, 0, none⟩ = some (.int .u8 rv.kind) ∧ W'.cell? ⟨n, 1, none⟩ = some (.string (bs rv.dep.name)) ∧ W'.cell? ⟨n, 2, none⟩ = some (.int .u8 rv.dep.op) ∧ W'.cell? ⟨n, 3, none⟩ = some (.int .i64 rv.dep.evr.epoch) ∧ W'.cell? ⟨n, 4, none⟩ = some (.string (bs rv.dep.evr.ver)) ∧ W'.cell? ⟨n, 5, none⟩ = some (.string (bs rv.dep.evr.rel)) ∧ W'.cell? ⟨n, 6, none⟩ = some (.slice rv.addr rv.args.length rv.cap) ∧ m < W'.heap.size ∧ n < W'.heap.size ∧ RTree W'.heap.size W' rv ∧ Below m w W' := by
  obtain ⟨a0, a1, a2, a3, a4, a5, a6, r0, r1, r2, r3, r4, r5, r6, l0, l1, hR, hB⟩ := h
  have hc : ∀ b i, b < W.heap.size → W'.cell? ⟨b, i, none⟩ = W.cell? ⟨b, i, none⟩ := fun b i h => hb.cell (p := ⟨b, i, none⟩) h
  exact ⟨(hc m 0 l0).trans a0, (hc m 1 l0).trans a1, (hc m 2 l0).trans a2, (hc m 3 l0).trans a3, (hc m 4 l0).trans a4, (hc m 5 l0).trans a5, (hc m 6 l0).trans a6, (hc n 0 l1).trans r0, (hc n 1 l1).trans r1, (hc n 2 l1).trans r2, (hc n 3 l1).trans r3, (hc n 4 l1).trans r4, (hc n 5 l1).trans r5, (hc n 6 l1).trans r6, Nat.lt_of_lt_of_le l0 hb.size, Nat.lt_of_lt_of_le l1 hb.size, (hR.keeps hb).more hb.size, hB.trans (hb.mono (Nat.le_of_lt l0))⟩
def AwCells (g : Nat) (W : World) : Prop := W.cell? ⟨g, 0, none⟩ = some (.string ⟨#[40, 40, 97, 41, 41]⟩) ∧ W.cell? ⟨g, 1, none⟩ = some (.int .i64 3) ∧ W.cell? ⟨g, 2, none⟩ = some (.string ⟨#[40, 97, 32, 97, 110, 100, 32, 98, 32, 111, 114, 32, 99, 41]⟩) ∧ W.cell? ⟨g, 3, none⟩ = some (.int .i64 9) ∧ W.cell? ⟨g, 4, none⟩ = some (.string ⟨#[97, 32, 98]⟩) ∧ W.cell? ⟨g, 5, none⟩ = some (.int .i64 2)
theorem aw_cells {g : Nat} {W W' : World} (h : AwCells g W) (hb : Below W.heap.size W W') (hg : g < W.heap.size) : AwCells g W' := by
  obtain ⟨c0, c1, c2, c3, c4, c5⟩ := h
  have hc : ∀ i, W'.cell? ⟨g, i, none⟩ = W.cell? ⟨g, i, none⟩ := fun i => hb.cell (p := ⟨g, i, none⟩) hg
  exact ⟨(hc 0).trans c0, (hc 1).trans c1, (hc 2).trans c2, (hc 3).trans c3, (hc 4).trans c4, (hc 5).trans c5⟩
theorem same_aw {m n : Nat} {rv : RV} {w W : World} (h : (W.alloc (.cells #[.int .u8 1, .string ⟨#[97]⟩, .int .u8 0, .int .i64 0, .string ⟨#[]⟩, .string ⟨#[]⟩, .slice none 0 0, .int .u8 1, .string ⟨#[98]⟩, .int .u8 6, .int .i64 0, .string ⟨#[49]⟩, .string ⟨#[]⟩, .slice none 0 0] 29)).cell? ⟨m, 0, none⟩ = some (.int .u8 1) ∧ (W.alloc (.cells #[.int .u8 1, .string ⟨#[97]⟩, .int .u8 0, .int .i64 0, .string ⟨#[]⟩, .string ⟨#[]⟩, .slice none 0 0, .int .u8 1, .string ⟨#[98]⟩, .int .u8 6, .int .i64 0, .string ⟨#[49]⟩, .string ⟨#[]⟩, .slice none 0 0] 29)).cell? ⟨m, 1, none⟩ = some (.string ⟨#[98]⟩) ∧ (W.alloc (.cells #[.int .u8 1, .string ⟨#[97]⟩, .int .u8 0, .int .i64 0, .string ⟨#[]⟩, .string ⟨#[]⟩, .slice none 0 0, .int .u8 1, .string ⟨#[98]⟩, .int .u8 6, .int .i64 0, .string ⟨#[49]⟩, .string ⟨#[]⟩, .slice none 0 0] 29)).cell? ⟨m, 2, none⟩ = some (.int .u8 6) ∧ (W.alloc (.cells #[.int .u8 1, .string ⟨#[97]⟩, .int .u8 0, .int .i64 0, .string ⟨#[]⟩, .string ⟨#[]⟩, .slice none 0 0, .int .u8 1, .string ⟨#[98]⟩, .int .u8 6, .int .i64 0, .string ⟨#[49]⟩, .string ⟨#[]⟩, .slice none 0 0] 29)).cell? ⟨m, 3, none⟩ = some (.int .i64 0) ∧ (W.alloc (.cells #[.int .u8 1, .string ⟨#[97]⟩, .int .u8 0, .int .i64 0, .string ⟨#[]⟩, .string ⟨#[]⟩, .slice none 0 0, .int .u8 1, .string ⟨#[98]⟩, .int .u8 6, .int .i64 0, .string ⟨#[49]⟩, .string ⟨#[]⟩, .slice none 0 0] 29)).cell? ⟨m, 4, none⟩ = some (.string ⟨#[49]⟩) ∧ (W.alloc (.cells #[.int .u8 1, .string ⟨#[97]⟩, .int .u8 0, .int .i64 0, .string ⟨#[]⟩, .string ⟨#[]⟩, .slice none 0 0, .int .u8 1, .string ⟨#[98]⟩, .int .u8 6, .int .i64 0, .string ⟨#[49]⟩, .string ⟨#[]⟩, .slice none 0 0] 29)).cell? ⟨m, 5, none⟩ = some (.string ⟨#[]⟩) ∧ (W.alloc (.cells #[.int .u8 1, .string ⟨#[97]⟩, .int .u8 0, .int .i64 0, .string ⟨#[]⟩, .string ⟨#[]⟩, .slice none 0 0, .int .u8 1, .string ⟨#[98]⟩, .int .u8 6, .int .i64 0, .string ⟨#[49]⟩, .string ⟨#[]⟩, .slice none 0 0] 29)).cell? ⟨m, 6, none⟩ = some (.slice none 0 0) ∧ (W.alloc (.cells #[.int .u8 1, .string ⟨#[97]⟩, .int .u8 0, .int .i64 0, .string ⟨#[]⟩, .string ⟨#[]⟩, .slice none 0 0, .int .u8 1, .string ⟨#[98]⟩, .int .u8 6, .int .i64 0, .string ⟨#[49]⟩, .string ⟨#[]⟩, .slice none 0 0] 29)).cell? ⟨n, 0, none⟩ = some (.int .u8 rv.kind) ∧ (W.alloc (.cells #[.int .u8 1, .string ⟨#[97]⟩, .int .u8 0, .int .i64 0, .string ⟨#[]⟩, .string ⟨#[]⟩, .slice none 0 0, .int .u8 1, .string ⟨#[98]⟩, .int .u8 6, .int .i64 0, .string ⟨#[49]⟩, .string ⟨#[]⟩, .slice none 0 0] 29)).cell? ⟨n, 1, none⟩ = some (.string (bs rv.dep.name)) ∧ (W.alloc (.cells #[.int .u8 1, .string ⟨#[97]⟩, .int .u8 0, .int .i64 0, .string ⟨#[]⟩, .string ⟨#[]⟩, .slice none 0 0, .int .u8 1, .string ⟨#[98]⟩, .int .u8 6, .int .i64 0, .string ⟨#[49]⟩, .string ⟨#[]⟩, .slice none 0 0] 29)).cell? ⟨n, 2, none⟩ = some (.int .u8 rv.dep.op) ∧ (W.alloc (.cells #[.int .u8 1, .string ⟨#[97]⟩, .int .u8 0, .int .i64 0, .string ⟨#[]⟩, .string ⟨#[]⟩, .slice none 0 0, .int .u8 1, .string ⟨#[98]⟩, .int .u8 6, .int .i64 0, .string ⟨#[49]⟩, .string ⟨#[]⟩, .slice none 0 0] 29)).cell? ⟨n, 3, none⟩ = some (.int .i64 rv.dep.evr.epoch) ∧ (W.alloc (.cells #[.int .u8 1, .string ⟨#[97]⟩, .int .u8 0, .int .i64 0, .string ⟨#[]⟩, .string ⟨#[]⟩, .slice none 0 0, .int .u8 1, .string ⟨#[98]⟩, .int .u8 6, .int .i64 0, .string ⟨#[49]⟩, .string ⟨#[]⟩, .slice none 0 0] 29)).cell? ⟨n, 4, none⟩ = some (.string (bs rv.dep.evr.ver)) ∧ (W.alloc (.cells #[.int .u8 1, .string ⟨#[97]⟩, .int .u8 0, .int .i64 0, .string ⟨#[]⟩, .string ⟨#[]⟩, .slice none 0 0, .int .u8 1, .string ⟨#[98]⟩, .int .u8 6, .int .i64 0, .string ⟨#[49]⟩, .string ⟨#[]⟩, .slice none 0 0] 29)).cell? ⟨n, 5, none⟩ = some (.string (bs rv.dep.evr.rel)) ∧ (W.alloc (.cells #[.int .u8 1, .string ⟨#[97]⟩, .int .u8 0, .int .i64 0, .string ⟨#[]⟩, .string ⟨#[]⟩, .slice none 0 0, .int .u8 1, .string ⟨#[98]⟩, .int .u8 6, .int .i64 0, .string ⟨#[49]⟩, .string ⟨#[]⟩, .slice none 0 0] 29)).cell? ⟨n, 6, none⟩ = some (.slice rv.addr rv.args.length rv.cap) ∧ m < (W.alloc (.cells #[.int .u8 1, .string ⟨#[97]⟩, .int .u8 0, .int .i64 0, .string ⟨#[]⟩, .string ⟨#[]⟩, .slice none 0 0, .int .u8 1, .string ⟨#[98]⟩, .int .u8 6, .int .i64 0, .string ⟨#[49]⟩, .string ⟨#[]⟩, .slice none 0 0] 29)).heap.size ∧ n < (W.alloc (.cells #[.int .u8 1, .string ⟨#[97]⟩, .int .u8 0, .int .i64 0, .string ⟨#[]⟩, .string ⟨#[]⟩, .slice none 0 0, .int .u8 1, .string ⟨#[98]⟩, .int .u8 6, .int .i64 0, .string ⟨#[49]⟩, .string ⟨#[]⟩, .slice none 0 0] 29)).heap.size ∧ RTree (W.alloc (.cells #[.int .u8 1, .string ⟨#[97]⟩, .int .u8 0, .int .i64 0, .string ⟨#[]⟩, .string ⟨#[]⟩, .slice none 0 0, .int .u8 1, .string ⟨#[98]⟩, .int .u8 6, .int .i64 0, .string ⟨#[49]⟩, .string ⟨#[]⟩, .slice none 0 0] 29)).heap.size (W.alloc (.cells #[.int .u8 1, .string ⟨#[97]⟩, .int .u8 0, .int .i64 0, .string ⟨#[]⟩, .string ⟨#[]⟩, .slice none 0 0, .int .u8 1, .string ⟨#[98]⟩, .int .u8 6, .int .i64 0, .string ⟨#[49]⟩, .string ⟨#[]⟩, .slice none 0 0] 29)) rv ∧ Below m w (W.alloc (.cells #[.int .u8 1, .string ⟨#[97]⟩, .int .u8 0, .int .i64 0, .string ⟨#[]⟩, .string ⟨#[]⟩, .slice none 0 0, .int .u8 1, .string ⟨#[98]⟩, .int .u8 6, .int .i64 0, .string ⟨#[49]⟩, .string ⟨#[]⟩, .slice none 0 0] 29))) (hrt : rv.tree = awT1) : Calls Tryz.prog 13 #[.agg #[.int .u8 rv.kind, .string (bs rv.dep.name), .int .u8 rv.dep.op, .int .i64 rv.dep.evr.epoch, .string (bs rv.dep.evr.ver), .string (bs rv.dep.evr.rel), .slice rv.addr rv.args.length rv.cap], .agg #[.int .u8 2, .string ⟨#[]⟩, .int .u8 0, .int .i64 0, .string ⟨#[]⟩, .string ⟨#[]⟩, .slice (some ⟨W.heap.size, 0, none⟩) 2 2]] (W.alloc (.cells #[.int .u8 1, .string ⟨#[97]⟩, .int .u8 0, .int .i64 0, .string ⟨#[]⟩, .string ⟨#[]⟩, .slice none 0 0, .int .u8 1, .string ⟨#[98]⟩, .int .u8 6, .int .i64 0, .string ⟨#[49]⟩, .string ⟨#[]⟩, .slice none 0 0] 29)) fun e w' => e = .returned (.bool true) ∧ Below (W.alloc (.cells #[.int .u8 1, .string ⟨#[97]⟩, .int .u8 0, .int .i64 0, .string ⟨#[]⟩, .string ⟨#[]⟩, .slice none 0 0, .int .u8 1, .string ⟨#[98]⟩, .int .u8 6, .int .i64 0, .string ⟨#[49]⟩, .string ⟨#[]⟩, .slice none 0 0] 29)).heap.size (W.alloc (.cells #[.int .u8 1, .string ⟨#[97]⟩, .int .u8 0, .int .i64 0, .string ⟨#[]⟩, .string ⟨#[]⟩, .slice none 0 0, .int .u8 1, .string ⟨#[98]⟩, .int .u8 6, .int .i64 0, .string ⟨#[49]⟩, .string ⟨#[]⟩, .slice none 0 0] 29)) w' := by
  have hR := h.2.2.2.2.2.2.2.2.2.2.2.2.2.2.2.2.1
  have hT : RTree (W.alloc (.cells #[.int .u8 1, .string ⟨#[97]⟩, .int .u8 0, .int .i64 0, .string ⟨#[]⟩, .string ⟨#[]⟩, .slice none 0 0, .int .u8 1, .string ⟨#[98]⟩, .int .u8 6, .int .i64 0, .string ⟨#[49]⟩, .string ⟨#[]⟩, .slice none 0 0] 29)).heap.size (W.alloc (.cells #[.int .u8 1, .string ⟨#[97]⟩, .int .u8 0, .int .i64 0, .string ⟨#[]⟩, .string ⟨#[]⟩, .slice none 0 0, .int .u8 1, .string ⟨#[98]⟩, .int .u8 6, .int .i64 0, .string ⟨#[49]⟩, .string ⟨#[]⟩, .slice none 0 0] 29)) (.node 2 zeroT (some ⟨W.heap.size, 0, none⟩) 2 [atomR [97], .node 1 awB none 0 []]) := lit_tree rfl rfl (by decide) (fun t ht => by
    simp only [List.mem_cons, List.not_mem_nil, or_false] at ht
    rcases ht with rfl | rfl
    · exact atomR_rtree _ _ _ (by decide)
    · exact .mk ⟨by decide, rfl, rfl, by decide, by decide⟩ (Rd.nil_ (Nat.zero_le _)) (fun a ha => by simp [RV.args] at ha))
  have hs := rsame_any rv.ht rv _ _ (Nat.le_refl _) hR hT
  rw [hrt, show (RV.node 2 zeroT (some ⟨W.heap.size, 0, none⟩) 2 [atomR [97], .node 1 awB none 0 []]).tree = awT1 from rfl, sameT_self] at hs
  exact hs
set_option maxRecDepth 100000 in
set_option maxHeartbeats 16000000 in
theorem rawake (w : World) (hI : RichIn w) : Calls Tryz.prog 10 #[] w fun e w' => e = .returned (.bool true) ∧ Below w.heap.size w w' := by
  have HI := Lib.hid hI
  have P1 := Lib.hid (fun W hW => parse_yes awL1 awT1 aw1 (by decide) W hW)
  have P3 := Lib.hid (fun W hW => parse_no _ _ _ aw3 (by decide) W hW)
  have P4 := Lib.hid (fun W hW => parse_no _ _ _ aw4 (by decide) W hW)
  have P5 := Lib.hid (fun W hW => parse_no _ _ _ aw5 (by decide) W hW)
  unfold RV.val at P1 P3 P4 P5
  clear hI
  go_enter Tryz.func10, Tryz.ntmps10
  go_wp2_with fail
  go_at_call 11
  refine (P1.out _ (HI.out.below ((Below.refl _ _).alloc (Nat.le_refl _) _))).mono ?_
  rintro en w1 ⟨rv, hrt, rfl, hT1, hb1⟩
  have HRT := Lib.hid hrt
  have HB1 := Lib.hid (((Below.refl w.heap.size w).alloc (Nat.le_refl _) _).trans (hb1.mono (by simp)))
  have HT1 := Lib.hid hT1
  have XB := Lib.hid ((Box7.new w (.int .u8 1) (.string ⟨#[98]⟩) (.int .u8 6) (.int .i64 0) (.string ⟨#[49]⟩) (.string ⟨#[]⟩) (.slice none 0 0) 29).past (hb1.mono (by simp)))
  have S1 : Hid ((w1.alloc (.cells #[.int .u8 rv.kind, .string (bs rv.dep.name), .int .u8 rv.dep.op, .int .i64 rv.dep.evr.epoch, .string (bs rv.dep.evr.ver), .string (bs rv.dep.evr.rel), .slice rv.addr rv.args.length rv.cap] 29)).cell? ⟨w.heap.size, 0, none⟩ = some (.int .u8 1) ∧ (w1.alloc (.cells #[.int .u8 rv.kind, .string (bs rv.dep.name), .int .u8 rv.dep.op, .int .i64 rv.dep.evr.epoch, .string (bs rv.dep.evr.ver), .string (bs rv.dep.evr.rel), .slice rv.addr rv.args.length rv.cap] 29)).cell? ⟨w.heap.size, 1, none⟩ = some (.string ⟨#[98]⟩) ∧ (w1.alloc (.cells #[.int .u8 rv.kind, .string (bs rv.dep.name), .int .u8 rv.dep.op, .int .i64 rv.dep.evr.epoch, .string (bs rv.dep.evr.ver), .string (bs rv.dep.evr.rel), .slice rv.addr rv.args.length rv.cap] 29)).cell? ⟨w.heap.size, 2, none⟩ = some (.int .u8 6) ∧ (w1.alloc (.cells #[.int .u8 rv.kind, .string (bs rv.dep.name), .int .u8 rv.dep.op, .int .i64 rv.dep.evr.epoch, .string (bs rv.dep.evr.ver), .string (bs rv.dep.evr.rel), .slice rv.addr rv.args.length rv.cap] 29)).cell? ⟨w.heap.size, 3, none⟩ = some (.int .i64 0) ∧ (w1.alloc (.cells #[.int .u8 rv.kind, .string (bs rv.dep.name), .int .u8 rv.dep.op, .int .i64 rv.dep.evr.epoch, .string (bs rv.dep.evr.ver), .string (bs rv.dep.evr.rel), .slice rv.addr rv.args.length rv.cap] 29)).cell? ⟨w.heap.size, 4, none⟩ = some (.string ⟨#[49]⟩) ∧ (w1.alloc (.cells #[.int .u8 rv.kind, .string (bs rv.dep.name), .int .u8 rv.dep.op, .int .i64 rv.dep.evr.epoch, .string (bs rv.dep.evr.ver), .string (bs rv.dep.evr.rel), .slice rv.addr rv.args.length rv.cap] 29)).cell? ⟨w.heap.size, 5, none⟩ = some (.string ⟨#[]⟩) ∧ (w1.alloc (.cells #[.int .u8 rv.kind, .string (bs rv.dep.name), .int .u8 rv.dep.op, .int .i64 rv.dep.evr.epoch, .string (bs rv.dep.evr.ver), .string (bs rv.dep.evr.rel), .slice rv.addr rv.args.length rv.cap] 29)).cell? ⟨w.heap.size, 6, none⟩ = some (.slice none 0 0) ∧ (w1.alloc (.cells #[.int .u8 rv.kind, .string (bs rv.dep.name), .int .u8 rv.dep.op, .int .i64 rv.dep.evr.epoch, .string (bs rv.dep.evr.ver), .string (bs rv.dep.evr.rel), .slice rv.addr rv.args.length rv.cap] 29)).cell? ⟨w1.heap.size, 0, none⟩ = some (.int .u8 rv.kind) ∧ (w1.alloc (.cells #[.int .u8 rv.kind, .string (bs rv.dep.name), .int .u8 rv.dep.op, .int .i64 rv.dep.evr.epoch, .string (bs rv.dep.evr.ver), .string (bs rv.dep.evr.rel), .slice rv.addr rv.args.length rv.cap] 29)).cell? ⟨w1.heap.size, 1, none⟩ = some (.string (bs rv.dep.name)) ∧ (w1.alloc (.cells #[.int .u8 rv.kind, .string (bs rv.dep.name), .int .u8 rv.dep.op, .int .i64 rv.dep.evr.epoch, .string (bs rv.dep.evr.ver), .string (bs rv.dep.evr.rel), .slice rv.addr rv.args.length rv.cap] 29)).cell? ⟨w1.heap.size, 2, none⟩ = some (.int .u8 rv.dep.op) ∧ (w1.alloc (.cells #[.int .u8 rv.kind, .string (bs rv.dep.name), .int .u8 rv.dep.op, .int .i64 rv.dep.evr.epoch, .string (bs rv.dep.evr.ver), .string (bs rv.dep.evr.rel), .slice rv.addr rv.args.length rv.cap] 29)).cell? ⟨w1.heap.size, 3, none⟩ = some (.int .i64 rv.dep.evr.epoch) ∧ (w1.alloc (.cells #[.int .u8 rv.kind, .string (bs rv.dep.name), .int .u8 rv.dep.op, .int .i64 rv.dep.evr.epoch, .string (bs rv.dep.evr.ver), .string (bs rv.dep.evr.rel), .slice rv.addr rv.args.length rv.cap] 29)).cell? ⟨w1.heap.size, 4, none⟩ = some (.string (bs rv.dep.evr.ver)) ∧ (w1.alloc (.cells #[.int .u8 rv.kind, .string (bs rv.dep.name), .int .u8 rv.dep.op, .int .i64 rv.dep.evr.epoch, .string (bs rv.dep.evr.ver), .string (bs rv.dep.evr.rel), .slice rv.addr rv.args.length rv.cap] 29)).cell? ⟨w1.heap.size, 5, none⟩ = some (.string (bs rv.dep.evr.rel)) ∧ (w1.alloc (.cells #[.int .u8 rv.kind, .string (bs rv.dep.name), .int .u8 rv.dep.op, .int .i64 rv.dep.evr.epoch, .string (bs rv.dep.evr.ver), .string (bs rv.dep.evr.rel), .slice rv.addr rv.args.length rv.cap] 29)).cell? ⟨w1.heap.size, 6, none⟩ = some (.slice rv.addr rv.args.length rv.cap) ∧ w.heap.size < (w1.alloc (.cells #[.int .u8 rv.kind, .string (bs rv.dep.name), .int .u8 rv.dep.op, .int .i64 rv.dep.evr.epoch, .string (bs rv.dep.evr.ver), .string (bs rv.dep.evr.rel), .slice rv.addr rv.args.length rv.cap] 29)).heap.size ∧ w1.heap.size < (w1.alloc (.cells #[.int .u8 rv.kind, .string (bs rv.dep.name), .int .u8 rv.dep.op, .int .i64 rv.dep.evr.epoch, .string (bs rv.dep.evr.ver), .string (bs rv.dep.evr.rel), .slice rv.addr rv.args.length rv.cap] 29)).heap.size ∧ RTree (w1.alloc (.cells #[.int .u8 rv.kind, .string (bs rv.dep.name), .int .u8 rv.dep.op, .int .i64 rv.dep.evr.epoch, .string (bs rv.dep.evr.ver), .string (bs rv.dep.evr.rel), .slice rv.addr rv.args.length rv.cap] 29)).heap.size (w1.alloc (.cells #[.int .u8 rv.kind, .string (bs rv.dep.name), .int .u8 rv.dep.op, .int .i64 rv.dep.evr.epoch, .string (bs rv.dep.evr.ver), .string (bs rv.dep.evr.rel), .slice rv.addr rv.args.length rv.cap] 29)) rv ∧ Below w.heap.size w (w1.alloc (.cells #[.int .u8 rv.kind, .string (bs rv.dep.name), .int .u8 rv.dep.op, .int .i64 rv.dep.evr.epoch, .string (bs rv.dep.evr.ver), .string (bs rv.dep.evr.rel), .slice rv.addr rv.args.length rv.cap] 29))) := Lib.hid ((by
    obtain ⟨⟨a0, a1, a2, a3, a4, a5, a6⟩, _, bl⟩ := XB.out.past ((Below.refl _ _).alloc (Nat.le_refl _) (.cells #[.int .u8 rv.kind, .string (bs rv.dep.name), .int .u8 rv.dep.op, .int .i64 rv.dep.evr.epoch, .string (bs rv.dep.evr.ver), .string (bs rv.dep.evr.rel), .slice rv.addr rv.args.length rv.cap] 29) |>.mono XB.out.2.2)
    obtain ⟨⟨r0, r1, r2, r3, r4, r5, r6⟩, _, rl⟩ := Box7.new w1 (.int .u8 rv.kind) (.string (bs rv.dep.name)) (.int .u8 rv.dep.op) (.int .i64 rv.dep.evr.epoch) (.string (bs rv.dep.evr.ver)) (.string (bs rv.dep.evr.rel)) (.slice rv.addr rv.args.length rv.cap) 29
    exact ⟨a0, a1, a2, a3, a4, a5, a6, r0, r1, r2, r3, r4, r5, r6, bl, rl, (HT1.out.keeps ((Below.refl _ _).alloc (Nat.le_refl _) _)).more (by simp), HB1.out.alloc HB1.out.size _⟩))
  clear hb1 hT1 hrt XB
  go_wp2_with fail
  go_at_call 44
  refine (ratom_any _ _).mono ?_
  rintro en w2 ⟨rfl, hb2⟩
  have S2 := Lib.hid (keep_aw S1.out hb2)
  clear hb2 S1
  go_wp2_with fail
  go_at_call 44
  refine (ratom_any _ _).mono ?_
  rintro en w3 ⟨rfl, hb3⟩
  have S3 := Lib.hid (keep_aw S2.out hb3)
  clear hb3 S2
  go_wp2_with fail
  go_at_call 44
  refine (ratom_any _ _).mono ?_
  rintro en w4 ⟨rfl, hb4⟩
  have S4 := Lib.hid (keep_aw S3.out hb4)
  clear hb4 S3
  go_wp2_with fail
  go_at_call 44
  refine (ratom_any _ _).mono ?_
  rintro en w5 ⟨rfl, hb5⟩
  have S5 := Lib.hid (keep_aw S4.out hb5)
  clear hb5 S4
  have z5 : (w5.alloc (.cells #[.int .u8 1, .string ⟨#[99]⟩, .int .u8 0, .int .i64 0, .string ⟨#[]⟩, .string ⟨#[]⟩, .slice none 0 0, .int .u8 1, .string ⟨#[100]⟩, .int .u8 0, .int .i64 0, .string ⟨#[]⟩, .string ⟨#[]⟩, .slice none 0 0] 29)).heap.size = w5.heap.size + 1 := by simp
  have T1 : RTree (w5.alloc (.cells #[.int .u8 1, .string ⟨#[99]⟩, .int .u8 0, .int .i64 0, .string ⟨#[]⟩, .string ⟨#[]⟩, .slice none 0 0, .int .u8 1, .string ⟨#[100]⟩, .int .u8 0, .int .i64 0, .string ⟨#[]⟩, .string ⟨#[]⟩, .slice none 0 0] 29)).heap.size (w5.alloc (.cells #[.int .u8 1, .string ⟨#[99]⟩, .int .u8 0, .int .i64 0, .string ⟨#[]⟩, .string ⟨#[]⟩, .slice none 0 0, .int .u8 1, .string ⟨#[100]⟩, .int .u8 0, .int .i64 0, .string ⟨#[]⟩, .string ⟨#[]⟩, .slice none 0 0] 29)) (.node 3 zeroT (some ⟨w5.heap.size, 0, none⟩) 2 [atomR [99], atomR [100]]) := lit_tree rfl rfl (by decide) (fun t ht => by
    simp only [List.mem_cons, List.not_mem_nil, or_false] at ht
    rcases ht with rfl | rfl <;> exact atomR_rtree _ _ _ (by decide))
  have T2 := lit_tree (w := w5.alloc (.cells #[.int .u8 1, .string ⟨#[99]⟩, .int .u8 0, .int .i64 0, .string ⟨#[]⟩, .string ⟨#[]⟩, .slice none 0 0, .int .u8 1, .string ⟨#[100]⟩, .int .u8 0, .int .i64 0, .string ⟨#[]⟩, .string ⟨#[]⟩, .slice none 0 0] 29)) (e := 29) (k := 4) (n := 3) (l := [atomR [97], atomR [98], .node 3 zeroT (some ⟨w5.heap.size, 0, none⟩) 2 [atomR [99], atomR [100]]]) (cs := #[.int .u8 1, .string ⟨#[97]⟩, .int .u8 0, .int .i64 0, .string ⟨#[]⟩, .string ⟨#[]⟩, .slice none 0 0, .int .u8 1, .string ⟨#[98]⟩, .int .u8 0, .int .i64 0, .string ⟨#[]⟩, .string ⟨#[]⟩, .slice none 0 0, .int .u8 3, .string ⟨#[]⟩, .int .u8 0, .int .i64 0, .string ⟨#[]⟩, .string ⟨#[]⟩, .slice (some ⟨w5.heap.size, 0, none⟩) 2 2]) rfl rfl (by decide) (fun t ht => by
    simp only [List.mem_cons, List.not_mem_nil, or_false] at ht
    rcases ht with rfl | rfl | rfl
    · exact atomR_rtree _ _ _ (by decide)
    · exact atomR_rtree _ _ _ (by decide)
    · exact T1)
  rw [z5] at T2
  have hB5 := S5.out.2.2.2.2.2.2.2.2.2.2.2.2.2.2.2.2.2
  have hz5 : w.heap.size ≤ w5.heap.size := hB5.size
  have hsh := rshow_any _ _ (by show awT2.parts ≤ 1000000; decide +kernel) T2 (HI.out.below ((hB5.alloc hz5 _).alloc (by omega) _))
  rw [show (RV.node 4 zeroT (some ⟨w5.heap.size + 1, 0, none⟩) 3 [atomR [97], atomR [98], .node 3 zeroT (some ⟨w5.heap.size, 0, none⟩) 2 [atomR [99], atomR [100]]]).tree = awT2 from rfl, aw2] at hsh
  obtain ⟨st, hst⟩ : ∃ st, st = bs (40 :: (awL2 ++ [41])) := ⟨_, rfl⟩
  have hsl : (st.toList == [40, 97, 32, 105, 102, 32, 98, 32, 101, 108, 115, 101, 32, 40, 99, 32, 111, 114, 32, 100, 41, 41]) = true := by rw [hst, bs_toList]; rfl
  have hsn : (st.toList != [40, 97, 32, 105, 102, 32, 98, 32, 101, 108, 115, 101, 32, 40, 99, 32, 111, 114, 32, 100, 41, 41]) = false := by simp only [bne, hsl, Bool.not_true]
  dsimp only at hsh
  rw [← hst] at hsh
  have HSH := Lib.hid hsh
  clear hsh T1 T2 hst hB5 z5
  go_wp2_with fail
  go_at_call 43
  refine HSH.out.mono ?_
  rintro en w6 ⟨rfl, hb6⟩
  have S6 := Lib.hid (keep_aw (keep_aw (keep_aw S5.out ((Below.refl _ _).alloc (Nat.le_refl _) _)) ((Below.refl _ _).alloc (Nat.le_refl _) _)) hb6)
  clear hb6 S5 HSH
  have S6' := S6.out
  have HRTS := HRT
  go_wp2_with fail
  go_region_held3 (fun W => W.cell? ⟨w.heap.size, 0, none⟩ = some (.int .u8 1) ∧ W.cell? ⟨w.heap.size, 1, none⟩ = some (.string ⟨#[98]⟩) ∧ W.cell? ⟨w.heap.size, 2, none⟩ = some (.int .u8 6) ∧ W.cell? ⟨w.heap.size, 3, none⟩ = some (.int .i64 0) ∧ W.cell? ⟨w.heap.size, 4, none⟩ = some (.string ⟨#[49]⟩) ∧ W.cell? ⟨w.heap.size, 5, none⟩ = some (.string ⟨#[]⟩) ∧ W.cell? ⟨w.heap.size, 6, none⟩ = some (.slice none 0 0) ∧ W.cell? ⟨w1.heap.size, 0, none⟩ = some (.int .u8 rv.kind) ∧ W.cell? ⟨w1.heap.size, 1, none⟩ = some (.string (bs rv.dep.name)) ∧ W.cell? ⟨w1.heap.size, 2, none⟩ = some (.int .u8 rv.dep.op) ∧ W.cell? ⟨w1.heap.size, 3, none⟩ = some (.int .i64 rv.dep.evr.epoch) ∧ W.cell? ⟨w1.heap.size, 4, none⟩ = some (.string (bs rv.dep.evr.ver)) ∧ W.cell? ⟨w1.heap.size, 5, none⟩ = some (.string (bs rv.dep.evr.rel)) ∧ W.cell? ⟨w1.heap.size, 6, none⟩ = some (.slice rv.addr rv.args.length rv.cap) ∧ w.heap.size < W.heap.size ∧ w1.heap.size < W.heap.size ∧ RTree W.heap.size W rv ∧ Below w.heap.size w W) (first | exact keep_aw (by assumption) hbb | exact keep_aw (by assumption) ((Below.refl _ _).alloc (Nat.le_refl _) _) | exact keep_aw S6' (Below.refl _ _).drew) (first | (go_at_call 44; ((with_reducible refine (ratom_any _ _).mono ?_); rintro e' w' ⟨rfl, hbb⟩)) | (go_at_call 13; (refine (same_aw (by assumption) HRT.out).mono ?_; rintro e' w' ⟨rfl, hbb⟩)))
  rename_i hh
  have hB7 := hh.2.2.2.2.2.2.2.2.2.2.2.2.2.2.2.2.2
  have HB7 := Lib.hid hB7
  have HZ7 := Lib.hid (hB7.size)
  clear hh hbb S6 S6' hB7
  go_wp2_with fail
  go_loopw [56] (fun iv wr => ∃ k : Nat, k ≤ 3 ∧ iv = .int .i64 (k : Int) ∧ AwCells w'.heap.size wr ∧ w'.heap.size < wr.heap.size ∧ Below w.heap.size w wr) (fun iv _ => 3 - (intOf iv).toNat)
  case atStart => exact ⟨0, by omega, rfl, ⟨(World.cell?_alloc_at _ _ _ _ rfl).trans rfl, (World.cell?_alloc_at _ _ _ _ rfl).trans rfl, (World.cell?_alloc_at _ _ _ _ rfl).trans rfl, (World.cell?_alloc_at _ _ _ _ rfl).trans rfl, (World.cell?_alloc_at _ _ _ _ rfl).trans rfl, (World.cell?_alloc_at _ _ _ _ rfl).trans rfl⟩, by simp, HB7.out.alloc HZ7.out _⟩
  case round =>
    obtain ⟨k, hk, rfl, cs, hg, hB⟩ := hrel
    rename World => wr
    obtain ⟨c0, c1, c2, c3, c4, c5⟩ := id cs
    by_cases hlt : k < 3
    · obtain rfl | rfl | rfl : k = 0 ∨ k = 1 ∨ k = 2 := by omega
      · go_wp2_with fail
        go_at_call 11
        refine (P3.out _ (HI.out.below (hB.alloc hB.size _))).mono ?_
        rintro en w8 ⟨rv2, _, rfl, _, hb8⟩
        have f1 := (hb8.cell (p := ⟨wr.heap.size, 1, none⟩) (by simp)).trans ((World.cell?_alloc_at _ _ _ _ rfl).trans rfl)
        have HB8 := Lib.hid (((Below.refl wr.heap.size wr).alloc (Nat.le_refl _) (.cells #[.string ⟨#[40, 40, 97, 41, 41]⟩, .int .i64 3] 84)).trans (hb8.mono (by simp)))
        have hz9 : wr.heap.size < w8.heap.size := by have := hb8.size; simp at this; omega
        have f2 : ∀ ob : Obj, (w8.alloc ob).cell? ⟨wr.heap.size, 1, none⟩ = some (.int .i64 3) := fun ob => (World.cell?_alloc_lt w8 ob ⟨wr.heap.size, 1, none⟩ hz9).trans f1
        clear hb8
        have hz8 := HB8.out.size
        go_wp2_with fail
        go_roundw
        case rel => exact ⟨1, by omega, by go_num, aw_cells cs ((HB8.out.mono (Nat.le_refl _)).alloc hz8 _) hg, by simp; omega, (hB.trans (HB8.out.mono hB.size)).alloc (Nat.le_trans hB.size hz8) _⟩
        case measure => simp [intOf]
      · go_wp2_with fail
        go_at_call 11
        refine (P4.out _ (HI.out.below (hB.alloc hB.size _))).mono ?_
        rintro en w8 ⟨rv2, _, rfl, _, hb8⟩
        have f1 := (hb8.cell (p := ⟨wr.heap.size, 1, none⟩) (by simp)).trans ((World.cell?_alloc_at _ _ _ _ rfl).trans rfl)
        have HB8 := Lib.hid (((Below.refl wr.heap.size wr).alloc (Nat.le_refl _) (.cells #[.string ⟨#[40, 97, 32, 97, 110, 100, 32, 98, 32, 111, 114, 32, 99, 41]⟩, .int .i64 9] 84)).trans (hb8.mono (by simp)))
        have hz9 : wr.heap.size < w8.heap.size := by have := hb8.size; simp at this; omega
        have f2 : ∀ ob : Obj, (w8.alloc ob).cell? ⟨wr.heap.size, 1, none⟩ = some (.int .i64 9) := fun ob => (World.cell?_alloc_lt w8 ob ⟨wr.heap.size, 1, none⟩ hz9).trans f1
        clear hb8
        have hz8 := HB8.out.size
        go_wp2_with fail
        go_roundw
        case rel => exact ⟨2, by omega, by go_num, aw_cells cs ((HB8.out.mono (Nat.le_refl _)).alloc hz8 _) hg, by simp; omega, (hB.trans (HB8.out.mono hB.size)).alloc (Nat.le_trans hB.size hz8) _⟩
        case measure => simp [intOf]
      · go_wp2_with fail
        go_at_call 11
        refine (P5.out _ (HI.out.below (hB.alloc hB.size _))).mono ?_
        rintro en w8 ⟨rv2, _, rfl, _, hb8⟩
        have f1 := (hb8.cell (p := ⟨wr.heap.size, 1, none⟩) (by simp)).trans ((World.cell?_alloc_at _ _ _ _ rfl).trans rfl)
        have HB8 := Lib.hid (((Below.refl wr.heap.size wr).alloc (Nat.le_refl _) (.cells #[.string ⟨#[97, 32, 98]⟩, .int .i64 2] 84)).trans (hb8.mono (by simp)))
        have hz9 : wr.heap.size < w8.heap.size := by have := hb8.size; simp at this; omega
        have f2 : ∀ ob : Obj, (w8.alloc ob).cell? ⟨wr.heap.size, 1, none⟩ = some (.int .i64 2) := fun ob => (World.cell?_alloc_lt w8 ob ⟨wr.heap.size, 1, none⟩ hz9).trans f1
        clear hb8
        have hz8 := HB8.out.size
        go_wp2_with fail
        go_roundw
        case rel => exact ⟨3, by omega, by go_num, aw_cells cs ((HB8.out.mono (Nat.le_refl _)).alloc hz8 _) hg, by simp; omega, (hB.trans (HB8.out.mono hB.size)).alloc (Nat.le_trans hB.size hz8) _⟩
        case measure => simp [intOf]
    · obtain rfl : k = 3 := by omega
      go_wp2_with fail
      go_ret
      exact ⟨rfl, hB⟩
end Go.Proofs.YtnfagaccbkeikaaGreatDoor
