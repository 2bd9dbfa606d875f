/- Walks: how two EVRs compare, by the document. -/
import Derived.Test.YtaibdghalhbpnaaDoorEvCmp
namespace Go.Proofs.YtaibdghalhbpnaaDoor
open Go.RowKit Go.Shelf

theorem ecmp_lt {a b : Evr} (h : a.epoch < b.epoch) : ecmp a b = -1 := by unfold ecmp cmpI; simp [h]
theorem ecmp_gt {a b : Evr} (h : b.epoch < a.epoch) : ecmp a b = 1 := by
  have e : cmpI a.epoch b.epoch = 1 := by unfold cmpI; rw [if_neg (by omega), if_pos h]
  unfold ecmp; simp [e]
theorem ecmp_eq {a b : Evr} (h : a.epoch = b.epoch) : ecmp a b = if comp a.ver b.ver ≠ 0 ∨ a.rel = [] ∨ b.rel = [] then comp a.ver b.ver else comp a.rel b.rel := by
  have e : cmpI a.epoch b.epoch = 0 := by unfold cmpI; rw [if_neg (by omega), if_neg (by omega)]
  unfold ecmp; simp [e]

set_option maxRecDepth 100000 in
set_option maxHeartbeats 2000000 in
theorem revr_any (a b : Evr) (w : World) (h1 : a.ver.length ≤ 1000000) (h2 : b.ver.length ≤ 1000000) (h3 : a.rel.length ≤ 1000000) (h4 : b.rel.length ≤ 1000000) :
    Calls Tryd.prog 56 #[a.val, b.val] w fun e w' => e = .returned (.int .i64 (ecmp a b)) ∧ Below w.heap.size w w' := by
  have L1 := Lib.hid (fun h => @ecmp_lt a b h)
  have L2 := Lib.hid (fun h => @ecmp_gt a b h)
  have L3 := Lib.hid (fun h => @ecmp_eq a b h)
  have C1 := Lib.hid (fun W => rcomp_any (bs a.ver) (bs b.ver) W (by rw [bs_size]; exact h1) (by rw [bs_size]; exact h2))
  have C2 := Lib.hid (fun W => rcomp_any (bs a.rel) (bs b.rel) W (by rw [bs_size]; exact h3) (by rw [bs_size]; exact h4))
  rw [bs_toList, bs_toList] at C1 C2
  generalize comp a.ver b.ver = c1 at *
  generalize comp a.rel b.rel = c2 at *
  generalize ecmp a b = res at *
  have q1 := new_ebox w a
  have q2 := new_ebox (w.alloc (.cells #[.int .i64 a.epoch, .string (bs a.ver), .string (bs a.rel)] 23)) b
  simp only [World.size_alloc] at q2
  have hn : ∀ (W : World) (o : Obj), Below W.heap.size W (W.alloc o) := fun W o => (Below.refl _ _).alloc (Nat.le_refl _) o
  have q1' := q1.below (hn _ (.cells #[.int .i64 b.epoch, .string (bs b.ver), .string (bs b.rel)] 23)) q1.1
  have hB2 : Below w.heap.size w ((w.alloc (.cells #[.int .i64 a.epoch, .string (bs a.ver), .string (bs a.rel)] 23)).alloc (.cells #[.int .i64 b.epoch, .string (bs b.ver), .string (bs b.rel)] 23)) :=
    ((Below.refl _ _).alloc (Nat.le_refl _) _).alloc (by simp) _
  unfold Evr.val
  clear hn q1
  go_enter Tryd.func56, Tryd.ntmps56
  rcases (show a.epoch < b.epoch ∨ b.epoch < a.epoch ∨ a.epoch = b.epoch by omega) with he | he | he
  · have H := Lib.hid (L1.out he)
    go_wp2_with fail
    go_ret
    exact ⟨ret_int H.out.symm, hB2⟩
  · have H := Lib.hid (L2.out he)
    have he' : ¬ a.epoch < b.epoch := by omega
    go_wp2_with fail
    go_ret
    exact ⟨ret_int H.out.symm, hB2⟩
  · have H := Lib.hid (L3.out he)
    have he1 : ¬ a.epoch < b.epoch := by omega
    have he2 : ¬ b.epoch < a.epoch := by omega
    clear he L1 L2 L3
    go_wp2_with fail
    go_at_call 40
    generalize ((w.alloc (.cells #[.int .i64 a.epoch, .string (bs a.ver), .string (bs a.rel)] 23)).alloc (.cells #[.int .i64 b.epoch, .string (bs b.ver), .string (bs b.rel)] 23)) = W at *
    refine (C1.out W).mono ?_
    rintro e w5 ⟨rfl, h⟩
    have B5 := hB2.trans (h.mono hB2.size)
    obtain ⟨_, a0, a1, a2⟩ := q1'.below h q1'.1
    obtain ⟨_, b0, b1, b2⟩ := q2.below h q2.1
    clear h q1' q2 hB2
    by_cases hc : c1 = 0
    · by_cases ha : a.rel = []
      · have f1 : (bs a.rel).toList = [] := by rw [bs_toList, ha]
        have H2 := Lib.hid (show c1 = res by rw [H.out, if_pos (by simp [ha])])
        clear ha
        go_wp2_with fail
        go_ret
        exact ⟨ret_int (by rw [← H2.out, hc]), B5⟩
      have f1 : ¬ (bs a.rel).toList = [] := by rw [bs_toList]; exact ha
      have f2 : (bs a.rel).toList.isEmpty = false := by rw [bs_toList]; simpa using ha
      by_cases hb : b.rel = []
      · have f3 : (bs b.rel).toList = [] := by rw [bs_toList, hb]
        have H2 := Lib.hid (show c1 = res by rw [H.out, if_pos (by simp [hb])])
        clear ha hb
        go_wp2_with fail
        go_ret
        exact ⟨ret_int (by rw [← H2.out, hc]), B5⟩
      · have f3 : ¬ (bs b.rel).toList = [] := by rw [bs_toList]; exact hb
        have f4 : (bs b.rel).toList.isEmpty = false := by rw [bs_toList]; simpa using hb
        have H2 := Lib.hid (show c2 = res by rw [H.out, if_neg (by simp [ha, hb, hc])])
        clear ha hb
        go_wp2_with fail
        go_at_call 40
        refine (C2.out w5).mono ?_
        rintro e w6 ⟨rfl, h⟩
        have B6 := B5.trans (h.mono B5.size)
        go_wp2
        go_ret
        exact ⟨ret_int H2.out, B6⟩
    · have H2 := Lib.hid (show c1 = res by rw [H.out, if_pos (.inl hc)])
      go_wp2_with fail
      go_ret
      exact ⟨ret_int H2.out, B5⟩
end Go.Proofs.YtaibdghalhbpnaaDoor
