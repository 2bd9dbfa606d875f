/- Walks: the statements of span: what each asks first (awake, long). -/
import Derived.Test.YtmmebheciolnoaaDoorSpHas
import Derived.Test.YtmmebheciolnoaaDoorSpOps
namespace Go.Proofs.YtmmebheciolnoaaDoor
open Go.RowKit Go.Shelf

theorem meet_lit (a b : Dp) (va vb : Value) (r : Bool) (ea : a.val = va) (eb : b.val = vb) (hr : meetP a b = r) (ha : a.evr.ok) (hb : b.evr.ok) (h0 : 0 ≤ a.op ∧ a.op ≤ 255) (h1 : 0 ≤ b.op ∧ b.op ≤ 255) (w : World) :
    Calls Tryd.prog 27 #[va, vb] w fun e w' => e = .returned (.bool r) ∧ Below w.heap.size w w' := by
  subst ea; subst eb; subst hr
  exact meet_any a b w ha hb h0.1 h0.2 h1.1 h1.2
theorem has_lit (a : Dp) (x : Evr) (va vb : Value) (r : Bool) (ea : a.val = va) (eb : x.val = vb) (hr : hasP a x = r) (ha : a.evr.ok) (hb : x.ok) (h0 : 0 ≤ a.op ∧ a.op ≤ 255) (w : World) :
    Calls Tryd.prog 28 #[va, vb] w fun e w' => e = .returned (.bool r) ∧ Below w.heap.size w w' := by
  subst ea; subst eb; subst hr
  exact has_any a x w ha hb h0.1 h0.2
theorem ok_lit (e : Evr) (h : (decide (e.ver.length ≤ 1000000) && decide (e.rel.length ≤ 1000000)) = true) : e.ok := by
  simp only [Bool.and_eq_true, decide_eq_true_eq] at h; exact h
set_option maxRecDepth 100000 in
set_option maxHeartbeats 2000000 in
theorem v_any (op : Int) (s : ByteArray) (w : World) : Calls Tryd.prog 70 #[.int .u8 op, .string s] w fun e w' => e = .returned (.agg #[.string ⟨#[]⟩, .int .u8 op, .int .i64 0, .string s, .string ⟨#[]⟩]) ∧ Below w.heap.size w w' := by
  go_enter Tryd.func70, Tryd.ntmps70
  go_wp2
  refine bodyPost_ret (v := .agg #[.string ⟨#[]⟩, .int .u8 op, .int .i64 0, .string s, .string ⟨#[]⟩]) (by simp [results, Tryd.results70, go_sem]) rfl ?_
  exact ⟨rfl, (Below.refl _ _).alloc (Nat.le_refl _) _⟩
set_option maxRecDepth 100000 in
set_option maxHeartbeats 4000000 in
theorem awake04 (w : World) (hO : OpsIn w) : Calls Tryd.prog 29 #[] w fun e w' => e = .returned (.bool true) ∧ Below w.heap.size w w' := by
  go_enter Tryd.func29, Tryd.ntmps29
  have B0 : Below w.heap.size w w := Below.refl _ _
  go_wp2_with fail
  go_at_call 70
  refine (v_any 1 ⟨#[50]⟩ _).mono ?_
  rintro e w1 ⟨rfl, h⟩
  have B1 := B0.trans (h.mono B0.size)
  clear h
  go_wp2_with fail
  go_at_call 70
  refine (v_any 4 ⟨#[49]⟩ _).mono ?_
  rintro e w2 ⟨rfl, h⟩
  have B2 := B1.trans (h.mono B1.size)
  clear h
  go_wp2_with fail
  go_at_call 27
  refine (meet_lit ⟨[], 1, ⟨0, [50], []⟩⟩ ⟨[], 4, ⟨0, [49], []⟩⟩ _ _ true rfl rfl (by decide +kernel) (ok_lit _ (by decide)) (ok_lit _ (by decide)) (by decide) (by decide) _).mono ?_
  rintro e w3 ⟨rfl, h⟩
  have B3 := B2.trans (h.mono B2.size)
  clear h
  go_wp2_with fail
  go_at_call 70
  refine (v_any 1 ⟨#[49]⟩ _).mono ?_
  rintro e w4 ⟨rfl, h⟩
  have B4 := B3.trans (h.mono B3.size)
  clear h
  go_wp2_with fail
  go_at_call 70
  refine (v_any 4 ⟨#[49]⟩ _).mono ?_
  rintro e w5 ⟨rfl, h⟩
  have B5 := B4.trans (h.mono B4.size)
  clear h
  go_wp2_with fail
  go_at_call 27
  refine (meet_lit ⟨[], 1, ⟨0, [49], []⟩⟩ ⟨[], 4, ⟨0, [49], []⟩⟩ _ _ false rfl rfl (by decide +kernel) (ok_lit _ (by decide)) (ok_lit _ (by decide)) (by decide) (by decide) _).mono ?_
  rintro e w6 ⟨rfl, h⟩
  have B6 := B5.trans (h.mono B5.size)
  clear h
  go_wp2_with fail
  go_at_call 70
  refine (v_any 2 ⟨#[49]⟩ _).mono ?_
  rintro e w7 ⟨rfl, h⟩
  have B7 := B6.trans (h.mono B6.size)
  clear h
  go_wp2_with fail
  go_at_call 70
  refine (v_any 6 ⟨#[49]⟩ _).mono ?_
  rintro e w8 ⟨rfl, h⟩
  have B8 := B7.trans (h.mono B7.size)
  clear h
  go_wp2_with fail
  go_at_call 27
  refine (meet_lit ⟨[], 2, ⟨0, [49], []⟩⟩ ⟨[], 6, ⟨0, [49], []⟩⟩ _ _ true rfl rfl (by decide +kernel) (ok_lit _ (by decide)) (ok_lit _ (by decide)) (by decide) (by decide) _).mono ?_
  rintro e w9 ⟨rfl, h⟩
  have B9 := B8.trans (h.mono B8.size)
  clear h
  go_wp2_with fail
  go_at_call 70
  refine (v_any 4 ⟨#[49]⟩ _).mono ?_
  rintro e w10 ⟨rfl, h⟩
  have B10 := B9.trans (h.mono B9.size)
  clear h
  go_wp2_with fail
  go_at_call 28
  refine (has_lit ⟨[], 4, ⟨0, [49], []⟩⟩ ⟨0, [49, 46, 53], []⟩ _ _ true rfl rfl (by decide +kernel) (ok_lit _ (by decide)) (ok_lit _ (by decide)) (by decide) _).mono ?_
  rintro e w11 ⟨rfl, h⟩
  have B11 := B10.trans (h.mono B10.size)
  clear h
  go_wp2_with fail
  go_at_call 26
  refine (may_any 5 _ (hO.below B11)).mono ?_
  rintro e w12 ⟨rfl, h⟩
  have B12 := B11.trans (h.mono B11.size)
  clear h
  go_wp2_with fail
  go_at_call 25
  refine (text_any 3 _ (hO.below B12)).mono ?_
  rintro e w13 ⟨rfl, h⟩
  have B13 := B12.trans (h.mono B12.size)
  clear h
  go_wp2
  go_ret
  exact ⟨ret_bool (by rw [bs_toList]; rfl), B13⟩
def longB (e : Evr) : Bool := decide (2000 < e.ver.length) || decide (2000 < e.rel.length)
end Go.Proofs.YtmmebheciolnoaaDoor
