/- RichUnlike: unlike ones have unlike texts. -/
import Derived.Test.YtlfnihnegheaaaaDoorRcD
import Derived.Test.YtlfnihnegheaaaaDoorRichLarge
namespace Go.Proofs.YtlfnihnegheaaaaDoor
open Go.RowKit Go.Shelf
set_option linter.unusedVariables false

/-- two rich dependencies that came in, each in its box -/
structure RU (w : World) (a b : RV) (m n : Nat) (W : World) : Prop where
  x : Box7 m (.int .u8 a.kind) (.string (bs a.dep.name)) (.int .u8 a.dep.op) (.int .i64 a.dep.evr.epoch) (.string (bs a.dep.evr.ver)) (.string (bs a.dep.evr.rel)) (.slice a.addr a.args.length a.cap) W
  y : Box7 n (.int .u8 b.kind) (.string (bs b.dep.name)) (.int .u8 b.dep.op) (.int .i64 b.dep.evr.epoch) (.string (bs b.dep.evr.ver)) (.string (bs b.dep.evr.rel)) (.slice b.addr b.args.length b.cap) W
  ta : RTree W.heap.size W a
  tb : RTree W.heap.size W b
  old : Below w.heap.size w W
  ri : RichIn W
theorem RU.then {w W W' : World} {a b : RV} {m n : Nat} (h : RU w a b m n W) (hb : Below W.heap.size W W') : RU w a b m n W' :=
  ⟨h.x.past (hb.mono h.x.2.2), h.y.past (hb.mono h.y.2.2), (h.ta.keeps hb).more hb.size, (h.tb.keeps hb).more hb.size, h.old.trans (hb.mono h.old.size), h.ri.below hb⟩
def boxOf (t : RV) : Obj := .cells #[.int .u8 t.kind, .string (bs t.dep.name), .int .u8 t.dep.op, .int .i64 t.dep.evr.epoch, .string (bs t.dep.evr.ver), .string (bs t.dep.evr.rel), .slice t.addr t.args.length t.cap] 29
theorem RU.new {w : World} {a b : RV} (hI : RichIn w) (ha : RTree w.heap.size w a) (hb : RTree w.heap.size w b) : RU w a b w.heap.size (w.heap.size + 1) ((w.alloc (boxOf a)).alloc (boxOf b)) := by
  have b1 : Below w.heap.size w (w.alloc (boxOf a)) := (Below.refl _ _).alloc (Nat.le_refl _) _
  have b2 : Below (w.alloc (boxOf a)).heap.size (w.alloc (boxOf a)) ((w.alloc (boxOf a)).alloc (boxOf b)) := (Below.refl _ _).alloc (Nat.le_refl _) _
  have z : (w.alloc (boxOf a)).heap.size = w.heap.size + 1 := by simp
  refine ⟨(Box7.new w _ _ _ _ _ _ _ _).past (b2.mono (by omega)), ?_, (((ha.keeps b1).more b1.size).keeps b2).more b2.size, (((hb.keeps b1).more b1.size).keeps b2).more b2.size, b1.trans (b2.mono (by omega)), (hI.below b1).below b2⟩
  have h := Box7.new (w.alloc (boxOf a)) (.int .u8 b.kind) (.string (bs b.dep.name)) (.int .u8 b.dep.op) (.int .i64 b.dep.evr.epoch) (.string (bs b.dep.evr.ver)) (.string (bs b.dep.evr.rel)) (.slice b.addr b.args.length b.cap) 29
  rw [z] at h
  exact h
set_option maxRecDepth 100000 in
set_option maxHeartbeats 16000000 in
theorem richUnlike_row (w : World) (hI : RichIn w) (a : RV) (ha : RTree w.heap.size w a) (b : RV) (hb : RTree w.heap.size w b) : Calls Tryd.prog 7 #[a.val, b.val] w fun e w' => e = .returned (.bool true) ∧ Below w.heap.size w w' := by
  have ST := Lib.hid (RU.new hI ha hb)
  have LA := Lib.hid (fun W (s : RU w a b w.heap.size (w.heap.size + 1) W) => rlarge_any a W s.ta)
  have LB := Lib.hid (fun W (s : RU w a b w.heap.size (w.heap.size + 1) W) => rlarge_any b W s.tb)
  have SA := Lib.hid (fun W (s : RU w a b w.heap.size (w.heap.size + 1) W) (h : a.tree.parts ≤ 2000) => rshow_any a W (by omega) s.ta s.ri)
  have SB := Lib.hid (fun W (s : RU w a b w.heap.size (w.heap.size + 1) W) (h : b.tree.parts ≤ 2000) => rshow_any b W (by omega) s.tb s.ri)
  have SM := Lib.hid (fun W (s : RU w a b w.heap.size (w.heap.size + 1) W) => rsame_any a.ht a b W (Nat.le_refl _) s.ta s.tb)
  have AW := Lib.hid (fun W (s : RU w a b w.heap.size (w.heap.size + 1) W) => rawake W s.ri)
  have LAW := Lib.hid (show (showR a.tree).2 = 0 → (showR b.tree).2 = 0 → (((bs (showR a.tree).1).toList == (bs (showR b.tree).1).toList) = sameT a.tree b.tree) from fun h1 h2 => by
    have h := show_inj h1 h2
    have hs := sameT_iff a.tree b.tree
    rw [bs_toList, bs_toList, Bool.eq_iff_iff, hs, ← h, beq_iff_eq])
  unfold boxOf at ST
  unfold RV.val at LA LB SA SB SM ⊢
  generalize (showR a.tree).1 = s1 at *
  generalize (showR a.tree).2 = n1 at *
  generalize (showR b.tree).1 = s2 at *
  generalize (showR b.tree).2 = n2 at *
  generalize sameT a.tree b.tree = sm at *
  clear hI ha hb
  go_enter Tryd.func7, Tryd.ntmps7
  go_wp2_with fail
  go_at_call 14
  refine (LA.out _ ST.out).mono ?_
  rintro e w1 ⟨r1, rfl, hp1, h⟩
  have P1 := Lib.hid hp1
  have ST := Lib.hid (ST.out.then h)
  clear h hp1
  cases r1
  rotate_left
  · go_wp2_with fail
    go_at_call 13
    refine (AW.out _ ST.out).mono ?_
    rintro e w2 ⟨rfl, h⟩
    have ST := Lib.hid (ST.out.then h)
    clear h
    go_wp2_with fail
    go_ret
    exact ⟨rfl, ST.out.old⟩
  obtain ⟨⟨y0, y1, y2, y3, y4, y5, y6⟩, _, yl⟩ := id ST.out.y
  go_wp2_with fail
  go_at_call 14
  refine (LB.out _ ST.out).mono ?_
  rintro e w2 ⟨r2, rfl, hp2, h⟩
  have P2 := Lib.hid hp2
  have ST := Lib.hid (ST.out.then h)
  clear h hp2 y0 y1 y2 y3 y4 y5 y6 yl
  cases r2
  rotate_left
  · go_wp2_with fail
    go_at_call 13
    refine (AW.out _ ST.out).mono ?_
    rintro e w2 ⟨rfl, h⟩
    have ST := Lib.hid (ST.out.then h)
    clear h
    go_wp2_with fail
    go_ret
    exact ⟨rfl, ST.out.old⟩
  go_wp2_with fail
  go_at_call 13
  refine (AW.out _ ST.out).mono ?_
  rintro e w3 ⟨rfl, h⟩
  have ST := Lib.hid (ST.out.then h)
  clear h
  obtain ⟨⟨x0, x1, x2, x3, x4, x5, x6⟩, _, xl⟩ := id ST.out.x
  go_wp2_with fail
  go_at_call 9
  refine (SA.out _ ST.out (P1.out (by trivial))).mono ?_
  rintro e w4 ⟨rfl, h⟩
  have ST := Lib.hid (ST.out.then h)
  clear h x0 x1 x2 x3 x4 x5 x6 xl
  obtain ⟨⟨y0, y1, y2, y3, y4, y5, y6⟩, _, yl⟩ := id ST.out.y
  go_wp2_with fail
  go_at_call 9
  refine (SB.out _ ST.out (P2.out (by trivial))).mono ?_
  rintro e w5 ⟨rfl, h⟩
  have ST := Lib.hid (ST.out.then h)
  clear h y0 y1 y2 y3 y4 y5 y6 yl
  by_cases hn1 : n1 = 0
  · by_cases hn2 : n2 = 0
    · subst hn1
      subst hn2
      obtain ⟨⟨x0, x1, x2, x3, x4, x5, x6⟩, _, xl⟩ := id ST.out.x
      obtain ⟨⟨y0, y1, y2, y3, y4, y5, y6⟩, _, yl⟩ := id ST.out.y
      have hq := LAW.out rfl rfl
      clear LAW
      go_wp2_with fail
      go_at_call 15
      refine (SM.out _ ST.out).mono ?_
      rintro e w6 ⟨rfl, h⟩
      have ST := Lib.hid (ST.out.then h)
      clear h x0 x1 x2 x3 x4 x5 x6 xl y0 y1 y2 y3 y4 y5 y6 yl
      go_wp2_with fail
      go_ret
      exact ⟨by simp, ST.out.old⟩
    · have hn2' : (n2 == 0) = false := by simpa using hn2
      have hn2'' : (n2 != 0) = true := by simpa using hn2
      subst hn1
      clear LAW hn2
      go_wp2_with fail
      go_ret
      exact ⟨rfl, ST.out.old⟩
  · have hn1' : (n1 == 0) = false := by simpa using hn1
    have hn1'' : (n1 != 0) = true := by simpa using hn1
    clear LAW hn1
    go_wp2_with fail
    go_ret
    exact ⟨rfl, ST.out.old⟩
end Go.Proofs.YtlfnihnegheaaaaDoor
