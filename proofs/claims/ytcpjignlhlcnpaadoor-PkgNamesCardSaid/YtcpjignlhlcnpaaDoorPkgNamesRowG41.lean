/- PkAwake -/
import Derived.Test.YtcpjignlhlcnpaaDoorPkgNamesRowG40
import Derived.Test.YtcpjignlhlcnpaaDoorPkgNamesRowG23
import Derived.Deep.RegionHeld3
set_option linter.unusedSimpArgs false
set_option linter.unusedVariables false
open List (getElem?_toArray getElem?_cons_zero getElem?_cons_succ setIfInBounds_toArray set_cons_zero set_cons_succ take_succ_cons take_zero)
/- Walks: the examples of pkg's statements (chandlerylaw10.awake). -/



namespace Go.Proofs.YtcpjignlhlcnpaaDoor
open Go.RowKit Go.Shelf
set_option linter.unusedVariables false

set_option maxRecDepth 100000 in
set_option maxHeartbeats 16000000 in
theorem awake10 (w0 : World) (hI : PkIn w0) : Calls Tryd.prog 9 #[] w0 fun e w' => e = .returned (.bool true) ∧ Below w0.heap.size w0 w' := by
  go_enter Tryd.func9, Tryd.ntmps9
  go_wp2_with fail
  go_at_call 5
  refine (one10_any _).mono ?_
  rintro e w1 ⟨rfl, B1⟩
  go_wp2_with fail
  go_at_call 5
  refine (one10_any _).mono ?_
  rintro e w2 ⟨rfl, h⟩
  have B2 := B1.trans (h.mono B1.size)
  clear h B1
  have hP : PkAt ((w2.alloc (.cells #[.string ⟨#[97]⟩, .int .i64 0, .string ⟨#[49]⟩, .string ⟨#[49]⟩, .int .u8 1, .string ⟨#[]⟩, .slice none 0 0, .slice none 0 0, .slice none 0 0, .slice none 0 0, .slice none 0 0, .slice none 0 0, .slice none 0 0, .slice none 0 0, .slice none 0 0] 33)).alloc (.cells #[.string ⟨#[97]⟩, .int .i64 0, .string ⟨#[49]⟩, .string ⟨#[49]⟩, .int .u8 1, .string ⟨#[]⟩, .slice none 0 0, .slice none 0 0, .slice none 0 0, .slice none 0 0, .slice none 0 0, .slice none 0 0, .slice none 0 0, .slice none 0 0, .slice none 0 0] 33)) w2.heap.size P1 := (PkAt.new w2 P1).calls ((Below.refl _ _).alloc (Nat.le_refl _) _)
  have hQ : PkAt ((w2.alloc (.cells #[.string ⟨#[97]⟩, .int .i64 0, .string ⟨#[49]⟩, .string ⟨#[49]⟩, .int .u8 1, .string ⟨#[]⟩, .slice none 0 0, .slice none 0 0, .slice none 0 0, .slice none 0 0, .slice none 0 0, .slice none 0 0, .slice none 0 0, .slice none 0 0, .slice none 0 0] 33)).alloc (.cells #[.string ⟨#[97]⟩, .int .i64 0, .string ⟨#[49]⟩, .string ⟨#[49]⟩, .int .u8 1, .string ⟨#[]⟩, .slice none 0 0, .slice none 0 0, .slice none 0 0, .slice none 0 0, .slice none 0 0, .slice none 0 0, .slice none 0 0, .slice none 0 0, .slice none 0 0] 33)) (w2.heap.size + 1) P1 := by have h := PkAt.new (w2.alloc (.cells #[.string ⟨#[97]⟩, .int .i64 0, .string ⟨#[49]⟩, .string ⟨#[49]⟩, .int .u8 1, .string ⟨#[]⟩, .slice none 0 0, .slice none 0 0, .slice none 0 0, .slice none 0 0, .slice none 0 0, .slice none 0 0, .slice none 0 0, .slice none 0 0, .slice none 0 0] 33)) P1; rw [show (w2.alloc (.cells #[.string ⟨#[97]⟩, .int .i64 0, .string ⟨#[49]⟩, .string ⟨#[49]⟩, .int .u8 1, .string ⟨#[]⟩, .slice none 0 0, .slice none 0 0, .slice none 0 0, .slice none 0 0, .slice none 0 0, .slice none 0 0, .slice none 0 0, .slice none 0 0, .slice none 0 0] 33)).heap.size = w2.heap.size + 1 from by simp] at h; exact h
  have f6 : ((w2.alloc (.cells #[.string ⟨#[97]⟩, .int .i64 0, .string ⟨#[49]⟩, .string ⟨#[49]⟩, .int .u8 1, .string ⟨#[]⟩, .slice none 0 0, .slice none 0 0, .slice none 0 0, .slice none 0 0, .slice none 0 0, .slice none 0 0, .slice none 0 0, .slice none 0 0, .slice none 0 0] 33)).alloc (.cells #[.string ⟨#[97]⟩, .int .i64 0, .string ⟨#[49]⟩, .string ⟨#[49]⟩, .int .u8 1, .string ⟨#[]⟩, .slice none 0 0, .slice none 0 0, .slice none 0 0, .slice none 0 0, .slice none 0 0, .slice none 0 0, .slice none 0 0, .slice none 0 0, .slice none 0 0] 33)).frozen? ⟨w2.heap.size + 1, 6, none⟩ = false := World.frozen?_alloc_at _ _ _ _ (by simp)
  have f14 : ((w2.alloc (.cells #[.string ⟨#[97]⟩, .int .i64 0, .string ⟨#[49]⟩, .string ⟨#[49]⟩, .int .u8 1, .string ⟨#[]⟩, .slice none 0 0, .slice none 0 0, .slice none 0 0, .slice none 0 0, .slice none 0 0, .slice none 0 0, .slice none 0 0, .slice none 0 0, .slice none 0 0] 33)).alloc (.cells #[.string ⟨#[97]⟩, .int .i64 0, .string ⟨#[49]⟩, .string ⟨#[49]⟩, .int .u8 1, .string ⟨#[]⟩, .slice none 0 0, .slice none 0 0, .slice none 0 0, .slice none 0 0, .slice none 0 0, .slice none 0 0, .slice none 0 0, .slice none 0 0, .slice none 0 0] 33)).frozen? ⟨w2.heap.size + 1, 14, none⟩ = false := World.frozen?_alloc_at _ _ _ _ (by simp)
  have B3 := (B2.alloc B2.size (.cells #[.string ⟨#[97]⟩, .int .i64 0, .string ⟨#[49]⟩, .string ⟨#[49]⟩, .int .u8 1, .string ⟨#[]⟩, .slice none 0 0, .slice none 0 0, .slice none 0 0, .slice none 0 0, .slice none 0 0, .slice none 0 0, .slice none 0 0, .slice none 0 0, .slice none 0 0] 33)).alloc (by have := B2.size; simp; omega) (.cells #[.string ⟨#[97]⟩, .int .i64 0, .string ⟨#[49]⟩, .string ⟨#[49]⟩, .int .u8 1, .string ⟨#[]⟩, .slice none 0 0, .slice none 0 0, .slice none 0 0, .slice none 0 0, .slice none 0 0, .slice none 0 0, .slice none 0 0, .slice none 0 0, .slice none 0 0] 33)
  go_wp2_with fail
  go_at_call 25
  refine (vdep_any _ _ _ _).mono ?_
  rintro e w3 ⟨rfl, h⟩
  have hlq := hQ.1
  have B4 := B3.trans (h.mono B3.size)
  have hP3 := hP.calls h
  have hQ3 := hQ.calls h
  have g6 := (h.frozen (p := ⟨w2.heap.size + 1, 6, none⟩) hlq).trans f6
  have g14 := (h.frozen (p := ⟨w2.heap.size + 1, 14, none⟩) hlq).trans f14
  have q6 : w3.cell? ⟨w2.heap.size + 1, 6, none⟩ = some (.slice none 0 0) := hQ3.2.2.2.2.2.2.2.1
  have q14 : w3.cell? ⟨w2.heap.size + 1, 14, none⟩ = some (.slice none 0 0) := hQ3.2.2.2.2.2.2.2.2.2.2.2.2.2.2.2
  have hq3 := hQ3.1
  have hp3 := hP3.1
  generalize hbp : w2.heap.size = bp at *
  clear hP hQ f6 f14 B3 h hlq
  obtain ⟨hPX, hQX, hLX, hsX⟩ := q_world w3 bp (bp + 1) (by omega) hP3 hQ3
  have B5 : Below w0.heap.size w0 (((((w3.setCell ⟨bp + 1, 6, none⟩ (.slice (some ⟨w3.heap.size, 0, none⟩) 1 1)).setCell ⟨bp + 1, 14, none⟩ (.slice (some ⟨w3.heap.size + 1, 0, none⟩) 1 1)).alloc (.cells #[.string ⟨#[98]⟩, .int .u8 2, .int .i64 0, .string ⟨#[51]⟩, .string ⟨#[]⟩] 25)).alloc (.cells #[.string ⟨#[47, 102]⟩] 9))) := ((B4.setCell (p := ⟨bp + 1, 6, none⟩) (by have := B2.size; simp; omega) _).setCell (p := ⟨bp + 1, 14, none⟩) (by have := B2.size; simp; omega) _ |>.alloc (by have := B4.size; simp [World.setCell]; omega) _).alloc (by have := B4.size; simp [World.setCell]; omega) _
  skip
  go_wp2_with fail
  generalize ((((w3.setCell ⟨bp + 1, 6, none⟩ (.slice (some ⟨w3.heap.size, 0, none⟩) 1 1)).setCell ⟨bp + 1, 14, none⟩ (.slice (some ⟨w3.heap.size + 1, 0, none⟩) 1 1)).alloc (.cells #[.string ⟨#[98]⟩, .int .u8 2, .int .i64 0, .string ⟨#[51]⟩, .string ⟨#[]⟩] 25)).alloc (.cells #[.string ⟨#[47, 102]⟩] 9)) = w at *
  generalize w3.heap.size = a at *
  generalize hc : a + 1 = c at *
  clear hP3 hQ3 g6 g14 q6 q14 hq3 hp3 B4 hbp
  have MY := Lib.hid (fun W (h : Below w.heap.size w W) => may_q a c W (hI.below (B5.trans (h.mono B5.size))) ((hLX.below h).more h.size))
  have V1 := Lib.hid (fun W => call_V1 W)
  have V2 := Lib.hid (fun W => call_V2 W)
  have V3 := Lib.hid (fun W => call_V3 W)
  have V4 := Lib.hid (fun W (h : Below w.heap.size w W) => call_V4 a c W ((hLX.below h).more h.size))
  have V5 := Lib.hid (fun W => call_V5 W)
  have V6 := Lib.hid (fun W (h : Below w.heap.size w W) => call_V6 a c W ((hLX.below h).more h.size))
  have V7 := Lib.hid (fun W => call_V7 W)
  have N8 := Lib.hid (fun W => call_N8 a c W)
  have N9 := Lib.hid (fun W => call_N9 a c W)
  clear hI hLX
  obtain ⟨lp, p0, p1, p2, p3, p4, p5, p6, p7, p8, p9, p10, p11, p12, p13, p14⟩ := hPX
  obtain ⟨lq, q0, q1, q2, q3, q4, q5, q6, q7, q8, q9, q10, q11, q12, q13, q14⟩ := hQX
  clear B2
  refine wp_region_held_drew (S := fun W => W.cell? ⟨bp, 0, none⟩ = some (.string ⟨#[97]⟩) ∧ W.cell? ⟨bp, 1, none⟩ = some (.int .i64 0) ∧ W.cell? ⟨bp, 2, none⟩ = some (.string ⟨#[49]⟩) ∧ W.cell? ⟨bp, 3, none⟩ = some (.string ⟨#[49]⟩) ∧ W.cell? ⟨bp, 4, none⟩ = some (.int .u8 1) ∧ W.cell? ⟨bp, 5, none⟩ = some (.string ⟨#[]⟩) ∧ W.cell? ⟨bp, 6, none⟩ = some (.slice none 0 0) ∧ W.cell? ⟨bp, 7, none⟩ = some (.slice none 0 0) ∧ W.cell? ⟨bp, 8, none⟩ = some (.slice none 0 0) ∧ W.cell? ⟨bp, 9, none⟩ = some (.slice none 0 0) ∧ W.cell? ⟨bp, 10, none⟩ = some (.slice none 0 0) ∧ W.cell? ⟨bp, 11, none⟩ = some (.slice none 0 0) ∧ W.cell? ⟨bp, 12, none⟩ = some (.slice none 0 0) ∧ W.cell? ⟨bp, 13, none⟩ = some (.slice none 0 0) ∧ W.cell? ⟨bp, 14, none⟩ = some (.slice none 0 0) ∧ W.cell? ⟨(bp + 1), 0, none⟩ = some (.string ⟨#[97]⟩) ∧ W.cell? ⟨(bp + 1), 1, none⟩ = some (.int .i64 0) ∧ W.cell? ⟨(bp + 1), 2, none⟩ = some (.string ⟨#[49]⟩) ∧ W.cell? ⟨(bp + 1), 3, none⟩ = some (.string ⟨#[49]⟩) ∧ W.cell? ⟨(bp + 1), 4, none⟩ = some (.int .u8 1) ∧ W.cell? ⟨(bp + 1), 5, none⟩ = some (.string ⟨#[]⟩) ∧ W.cell? ⟨(bp + 1), 6, none⟩ = some (.slice (some ⟨a, 0, none⟩) 1 1) ∧ W.cell? ⟨(bp + 1), 7, none⟩ = some (.slice none 0 0) ∧ W.cell? ⟨(bp + 1), 8, none⟩ = some (.slice none 0 0) ∧ W.cell? ⟨(bp + 1), 9, none⟩ = some (.slice none 0 0) ∧ W.cell? ⟨(bp + 1), 10, none⟩ = some (.slice none 0 0) ∧ W.cell? ⟨(bp + 1), 11, none⟩ = some (.slice none 0 0) ∧ W.cell? ⟨(bp + 1), 12, none⟩ = some (.slice none 0 0) ∧ W.cell? ⟨(bp + 1), 13, none⟩ = some (.slice none 0 0) ∧ W.cell? ⟨(bp + 1), 14, none⟩ = some (.slice (some ⟨c, 0, none⟩) 1 1) ∧ bp < W.heap.size ∧ (bp + 1) < W.heap.size ∧ Below w.heap.size w W) (by kernel_rfl) (by exact ⟨p0, p1, p2, p3, p4, p5, p6, p7, p8, p9, p10, p11, p12, p13, p14, q0, q1, q2, q3, q4, q5, q6, q7, q8, q9, q10, q11, q12, q13, q14, lp, lq, (Below.refl _ _).drew⟩) (fun hHeld => ?_)
  refine held_take 0 (some 12) ?_ rfl rfl (by kernel_rfl) (by kernel_rfl) (by kernel_rfl) (fun _ _ _ h => h) (by assumption) (by rfl) ?_ ?_
  rotate_left
  · intro w hSw
    try dsimp only at hSw
    try simp only [List.getElem_toArray, List.getElem_cons_zero]
    go_simp
    try with_reducible rfl
  try simp only [Act.put, setIfInBounds_toArray, set_cons_zero, set_cons_succ]
  refine wpAnyH_ready (rs := [1]) (by kernel_rfl) (by simp) ?_
  refine AllReadyH.cons rfl (fun K hK => ?_) AllReadyH.nil
  try simp only [List.getElem_toArray, List.getElem_cons_succ, List.getElem_cons_zero]
  go_simp
  (go_at_call 6; ((with_reducible refine (MY.out _ (tail_ak (by assumption))).mono ?_); rintro e w' ⟨rfl, hbb⟩))
  refine hK.out _ _ (keep_ak (by assumption) hbb) (fun hHeld => ?_)
  clear hK K
  try simp only [Act.put, setIfInBounds_toArray, set_cons_zero, set_cons_succ]
  refine held_take 2 (some 14) ?_ rfl rfl (by kernel_rfl) (by kernel_rfl) (by kernel_rfl) (fun _ _ _ h => h) (by assumption) (by rfl) ?_ ?_
  rotate_left
  · intro w hSw
    try dsimp only at hSw
    try simp only [List.getElem_toArray, List.getElem_cons_succ, List.getElem_cons_zero]
    go_simp
    try with_reducible rfl
  try simp only [Act.put, setIfInBounds_toArray, set_cons_zero, set_cons_succ]
  refine held_take 3 (some 15) ?_ rfl rfl (by kernel_rfl) (by kernel_rfl) (by kernel_rfl) (fun _ _ _ h => h) (by assumption) (by rfl) ?_ ?_
  rotate_left
  · intro w hSw
    try dsimp only at hSw
    try simp only [List.getElem_toArray, List.getElem_cons_succ, List.getElem_cons_zero]
    go_simp
    try with_reducible rfl
  try simp only [Act.put, setIfInBounds_toArray, set_cons_zero, set_cons_succ]
  refine held_take 4 (some 16) ?_ rfl rfl (by kernel_rfl) (by kernel_rfl) (by kernel_rfl) (fun _ _ _ h => h) (by assumption) (by rfl) ?_ ?_
  rotate_left
  · intro w hSw
    try dsimp only at hSw
    try simp only [List.getElem_toArray, List.getElem_cons_succ, List.getElem_cons_zero]
    go_simp
    try with_reducible rfl
  try simp only [Act.put, setIfInBounds_toArray, set_cons_zero, set_cons_succ]
  refine wpAnyH_ready (rs := [5]) (by kernel_rfl) (by simp) ?_
  refine AllReadyH.cons rfl (fun K hK => ?_) AllReadyH.nil
  try simp only [List.getElem_toArray, List.getElem_cons_succ, List.getElem_cons_zero]
  go_simp
  (go_at_call 25; refine (vdep_any _ _ _ _).mono ?_; rintro e w' ⟨rfl, hbb⟩)
  refine hK.out _ _ (keep_ak (by assumption) hbb) (fun hHeld => ?_)
  clear hK K
  try simp only [Act.put, setIfInBounds_toArray, set_cons_zero, set_cons_succ]
  as_aux_lemma =>
    refine wpAnyH_ready (rs := [6]) (by kernel_rfl) (by simp) ?_
    refine AllReadyH.cons rfl (fun K hK => ?_) AllReadyH.nil
    try simp only [List.getElem_toArray, List.getElem_cons_succ, List.getElem_cons_zero]
    go_simp
    (go_at_call 26; ((with_reducible refine (V1.out _).mono ?_); rintro e w' ⟨rfl, hbb⟩))
    refine hK.out _ _ (keep_ak (by assumption) hbb) (fun hHeld => ?_)
    clear hK K
    try simp only [Act.put, setIfInBounds_toArray, set_cons_zero, set_cons_succ]
    refine held_take 7 (some 19) ?_ rfl rfl (by kernel_rfl) (by kernel_rfl) (by kernel_rfl) (fun _ _ _ h => h) (by assumption) (by rfl) ?_ ?_
    rotate_left
    · intro w hSw
      try dsimp only at hSw
      try simp only [List.getElem_toArray, List.getElem_cons_succ, List.getElem_cons_zero]
      go_simp
      try with_reducible rfl
    try simp only [Act.put, setIfInBounds_toArray, set_cons_zero, set_cons_succ]
    refine held_take 8 (some 20) ?_ rfl rfl (by kernel_rfl) (by kernel_rfl) (by kernel_rfl) (fun _ _ _ h => h) (by assumption) (by rfl) ?_ ?_
    rotate_left
    · intro w hSw
      try dsimp only at hSw
      try simp only [List.getElem_toArray, List.getElem_cons_succ, List.getElem_cons_zero]
      go_simp
      try with_reducible rfl
    try simp only [Act.put, setIfInBounds_toArray, set_cons_zero, set_cons_succ]
    refine held_take 9 (some 21) ?_ rfl rfl (by kernel_rfl) (by kernel_rfl) (by kernel_rfl) (fun _ _ _ h => h) (by assumption) (by rfl) ?_ ?_
    rotate_left
    · intro w hSw
      try dsimp only at hSw
      try simp only [List.getElem_toArray, List.getElem_cons_succ, List.getElem_cons_zero]
      go_simp
      try with_reducible rfl
    try simp only [Act.put, setIfInBounds_toArray, set_cons_zero, set_cons_succ]
    refine held_take 10 (some 22) ?_ rfl rfl (by kernel_rfl) (by kernel_rfl) (by kernel_rfl) (fun _ _ _ h => h) (by assumption) (by rfl) ?_ ?_
    rotate_left
    · intro w hSw
      try dsimp only at hSw
      try simp only [List.getElem_toArray, List.getElem_cons_succ, List.getElem_cons_zero]
      go_simp
      try with_reducible rfl
    try simp only [Act.put, setIfInBounds_toArray, set_cons_zero, set_cons_succ]
    refine wpAnyH_ready (rs := [11]) (by kernel_rfl) (by simp) ?_
    refine AllReadyH.cons rfl (fun K hK => ?_) AllReadyH.nil
    try simp only [List.getElem_toArray, List.getElem_cons_succ, List.getElem_cons_zero]
    go_simp
    (go_at_call 25; refine (vdep_any _ _ _ _).mono ?_; rintro e w' ⟨rfl, hbb⟩)
    refine hK.out _ _ (keep_ak (by assumption) hbb) (fun hHeld => ?_)
    clear hK K
    try simp only [Act.put, setIfInBounds_toArray, set_cons_zero, set_cons_succ]
    as_aux_lemma =>
      refine wpAnyH_ready (rs := [12]) (by kernel_rfl) (by simp) ?_
      refine AllReadyH.cons rfl (fun K hK => ?_) AllReadyH.nil
      try simp only [List.getElem_toArray, List.getElem_cons_succ, List.getElem_cons_zero]
      go_simp
      (go_at_call 26; ((with_reducible refine (V2.out _).mono ?_); rintro e w' ⟨rfl, hbb⟩))
      refine hK.out _ _ (keep_ak (by assumption) hbb) (fun hHeld => ?_)
      clear hK K
      try simp only [Act.put, setIfInBounds_toArray, set_cons_zero, set_cons_succ]
      refine held_take 13 (some 25) ?_ rfl rfl (by kernel_rfl) (by kernel_rfl) (by kernel_rfl) (fun _ _ _ h => h) (by assumption) (by rfl) ?_ ?_
      rotate_left
      · intro w hSw
        try dsimp only at hSw
        try simp only [List.getElem_toArray, List.getElem_cons_succ, List.getElem_cons_zero]
        go_simp
        try with_reducible rfl
      try simp only [Act.put, setIfInBounds_toArray, set_cons_zero, set_cons_succ]
      refine held_take 14 (some 26) ?_ rfl rfl (by kernel_rfl) (by kernel_rfl) (by kernel_rfl) (fun _ _ _ h => h) (by assumption) (by rfl) ?_ ?_
      rotate_left
      · intro w hSw
        try dsimp only at hSw
        try simp only [List.getElem_toArray, List.getElem_cons_succ, List.getElem_cons_zero]
        go_simp
        try with_reducible rfl
      try simp only [Act.put, setIfInBounds_toArray, set_cons_zero, set_cons_succ]
      refine held_take 15 (some 27) ?_ rfl rfl (by kernel_rfl) (by kernel_rfl) (by kernel_rfl) (fun _ _ _ h => h) (by assumption) (by rfl) ?_ ?_
      rotate_left
      · intro w hSw
        try dsimp only at hSw
        try simp only [List.getElem_toArray, List.getElem_cons_succ, List.getElem_cons_zero]
        go_simp
        try with_reducible rfl
      try simp only [Act.put, setIfInBounds_toArray, set_cons_zero, set_cons_succ]
      refine held_take 16 (some 28) ?_ rfl rfl (by kernel_rfl) (by kernel_rfl) (by kernel_rfl) (fun _ _ _ h => h) (by assumption) (by rfl) ?_ ?_
      rotate_left
      · intro w hSw
        try dsimp only at hSw
        try simp only [List.getElem_toArray, List.getElem_cons_succ, List.getElem_cons_zero]
        go_simp
        try with_reducible rfl
      try simp only [Act.put, setIfInBounds_toArray, set_cons_zero, set_cons_succ]
      refine wpAnyH_ready (rs := [17]) (by kernel_rfl) (by simp) ?_
      refine AllReadyH.cons rfl (fun K hK => ?_) AllReadyH.nil
      try simp only [List.getElem_toArray, List.getElem_cons_succ, List.getElem_cons_zero]
      go_simp
      (go_at_call 26; ((with_reducible refine (V3.out _).mono ?_); rintro e w' ⟨rfl, hbb⟩))
      refine hK.out _ _ (keep_ak (by assumption) hbb) (fun hHeld => ?_)
      clear hK K
      try simp only [Act.put, setIfInBounds_toArray, set_cons_zero, set_cons_succ]
      as_aux_lemma =>
        refine held_take 18 (some 30) ?_ rfl rfl (by kernel_rfl) (by kernel_rfl) (by kernel_rfl) (fun _ _ _ h => h) (by assumption) (by rfl) ?_ ?_
        rotate_left
        · intro w hSw
          try dsimp only at hSw
          try simp only [List.getElem_toArray, List.getElem_cons_succ, List.getElem_cons_zero]
          go_simp
          try with_reducible rfl
        try simp only [Act.put, setIfInBounds_toArray, set_cons_zero, set_cons_succ]
        refine held_take 19 (some 31) ?_ rfl rfl (by kernel_rfl) (by kernel_rfl) (by kernel_rfl) (fun _ _ _ h => h) (by assumption) (by rfl) ?_ ?_
        rotate_left
        · intro w hSw
          try dsimp only at hSw
          try simp only [List.getElem_toArray, List.getElem_cons_succ, List.getElem_cons_zero]
          go_simp
          try with_reducible rfl
        try simp only [Act.put, setIfInBounds_toArray, set_cons_zero, set_cons_succ]
        refine held_take 20 (some 32) ?_ rfl rfl (by kernel_rfl) (by kernel_rfl) (by kernel_rfl) (fun _ _ _ h => h) (by assumption) (by rfl) ?_ ?_
        rotate_left
        · intro w hSw
          try dsimp only at hSw
          try simp only [List.getElem_toArray, List.getElem_cons_succ, List.getElem_cons_zero]
          go_simp
          try with_reducible rfl
        try simp only [Act.put, setIfInBounds_toArray, set_cons_zero, set_cons_succ]
        refine held_take 21 (some 33) ?_ rfl rfl (by kernel_rfl) (by kernel_rfl) (by kernel_rfl) (fun _ _ _ h => h) (by assumption) (by rfl) ?_ ?_
        rotate_left
        · intro w hSw
          try dsimp only at hSw
          try simp only [List.getElem_toArray, List.getElem_cons_succ, List.getElem_cons_zero]
          go_simp
          try with_reducible rfl
        try simp only [Act.put, setIfInBounds_toArray, set_cons_zero, set_cons_succ]
        refine wpAnyH_ready (rs := [22]) (by kernel_rfl) (by simp) ?_
        refine AllReadyH.cons rfl (fun K hK => ?_) AllReadyH.nil
        try simp only [List.getElem_toArray, List.getElem_cons_succ, List.getElem_cons_zero]
        go_simp
        (go_at_call 25; refine (vdep_any _ _ _ _).mono ?_; rintro e w' ⟨rfl, hbb⟩)
        refine hK.out _ _ (keep_ak (by assumption) hbb) (fun hHeld => ?_)
        clear hK K
        try simp only [Act.put, setIfInBounds_toArray, set_cons_zero, set_cons_succ]
        refine wpAnyH_ready (rs := [23]) (by kernel_rfl) (by simp) ?_
        refine AllReadyH.cons rfl (fun K hK => ?_) AllReadyH.nil
        try simp only [List.getElem_toArray, List.getElem_cons_succ, List.getElem_cons_zero]
        go_simp
        (go_at_call 26; ((with_reducible refine (V4.out _ (tail_ak (by assumption))).mono ?_); rintro e w' ⟨rfl, hbb⟩))
        refine hK.out _ _ (keep_ak (by assumption) hbb) (fun hHeld => ?_)
        clear hK K
        try simp only [Act.put, setIfInBounds_toArray, set_cons_zero, set_cons_succ]
        as_aux_lemma =>
          refine held_take 24 (some 36) ?_ rfl rfl (by kernel_rfl) (by kernel_rfl) (by kernel_rfl) (fun _ _ _ h => h) (by assumption) (by rfl) ?_ ?_
          rotate_left
          · intro w hSw
            try dsimp only at hSw
            try simp only [List.getElem_toArray, List.getElem_cons_succ, List.getElem_cons_zero]
            go_simp
            try with_reducible rfl
          try simp only [Act.put, setIfInBounds_toArray, set_cons_zero, set_cons_succ]
          refine held_take 25 (some 37) ?_ rfl rfl (by kernel_rfl) (by kernel_rfl) (by kernel_rfl) (fun _ _ _ h => h) (by assumption) (by rfl) ?_ ?_
          rotate_left
          · intro w hSw
            try dsimp only at hSw
            try simp only [List.getElem_toArray, List.getElem_cons_succ, List.getElem_cons_zero]
            go_simp
            try with_reducible rfl
          try simp only [Act.put, setIfInBounds_toArray, set_cons_zero, set_cons_succ]
          refine held_take 26 (some 38) ?_ rfl rfl (by kernel_rfl) (by kernel_rfl) (by kernel_rfl) (fun _ _ _ h => h) (by assumption) (by rfl) ?_ ?_
          rotate_left
          · intro w hSw
            try dsimp only at hSw
            try simp only [List.getElem_toArray, List.getElem_cons_succ, List.getElem_cons_zero]
            go_simp
            try with_reducible rfl
          try simp only [Act.put, setIfInBounds_toArray, set_cons_zero, set_cons_succ]
          refine held_take 27 (some 39) ?_ rfl rfl (by kernel_rfl) (by kernel_rfl) (by kernel_rfl) (fun _ _ _ h => h) (by assumption) (by rfl) ?_ ?_
          rotate_left
          · intro w hSw
            try dsimp only at hSw
            try simp only [List.getElem_toArray, List.getElem_cons_succ, List.getElem_cons_zero]
            go_simp
            try with_reducible rfl
          try simp only [Act.put, setIfInBounds_toArray, set_cons_zero, set_cons_succ]
          refine wpAnyH_ready (rs := [28]) (by kernel_rfl) (by simp) ?_
          refine AllReadyH.cons rfl (fun K hK => ?_) AllReadyH.nil
          try simp only [List.getElem_toArray, List.getElem_cons_succ, List.getElem_cons_zero]
          go_simp
          (go_at_call 25; refine (vdep_any _ _ _ _).mono ?_; rintro e w' ⟨rfl, hbb⟩)
          refine hK.out _ _ (keep_ak (by assumption) hbb) (fun hHeld => ?_)
          clear hK K
          try simp only [Act.put, setIfInBounds_toArray, set_cons_zero, set_cons_succ]
          refine wpAnyH_ready (rs := [29]) (by kernel_rfl) (by simp) ?_
          refine AllReadyH.cons rfl (fun K hK => ?_) AllReadyH.nil
          try simp only [List.getElem_toArray, List.getElem_cons_succ, List.getElem_cons_zero]
          go_simp
          (go_at_call 26; ((with_reducible refine (V5.out _).mono ?_); rintro e w' ⟨rfl, hbb⟩))
          refine hK.out _ _ (keep_ak (by assumption) hbb) (fun hHeld => ?_)
          clear hK K
          try simp only [Act.put, setIfInBounds_toArray, set_cons_zero, set_cons_succ]
          as_aux_lemma =>
            refine held_take 30 (some 42) ?_ rfl rfl (by kernel_rfl) (by kernel_rfl) (by kernel_rfl) (fun _ _ _ h => h) (by assumption) (by rfl) ?_ ?_
            rotate_left
            · intro w hSw
              try dsimp only at hSw
              try simp only [List.getElem_toArray, List.getElem_cons_succ, List.getElem_cons_zero]
              go_simp
              try with_reducible rfl
            try simp only [Act.put, setIfInBounds_toArray, set_cons_zero, set_cons_succ]
            refine held_take 31 (some 43) ?_ rfl rfl (by kernel_rfl) (by kernel_rfl) (by kernel_rfl) (fun _ _ _ h => h) (by assumption) (by rfl) ?_ ?_
            rotate_left
            · intro w hSw
              try dsimp only at hSw
              try simp only [List.getElem_toArray, List.getElem_cons_succ, List.getElem_cons_zero]
              go_simp
              try with_reducible rfl
            try simp only [Act.put, setIfInBounds_toArray, set_cons_zero, set_cons_succ]
            refine held_take 32 (some 44) ?_ rfl rfl (by kernel_rfl) (by kernel_rfl) (by kernel_rfl) (fun _ _ _ h => h) (by assumption) (by rfl) ?_ ?_
            rotate_left
            · intro w hSw
              try dsimp only at hSw
              try simp only [List.getElem_toArray, List.getElem_cons_succ, List.getElem_cons_zero]
              go_simp
              try with_reducible rfl
            try simp only [Act.put, setIfInBounds_toArray, set_cons_zero, set_cons_succ]
            refine held_take 33 (some 45) ?_ rfl rfl (by kernel_rfl) (by kernel_rfl) (by kernel_rfl) (fun _ _ _ h => h) (by assumption) (by rfl) ?_ ?_
            rotate_left
            · intro w hSw
              try dsimp only at hSw
              try simp only [List.getElem_toArray, List.getElem_cons_succ, List.getElem_cons_zero]
              go_simp
              try with_reducible rfl
            try simp only [Act.put, setIfInBounds_toArray, set_cons_zero, set_cons_succ]
            refine held_take 34 (some 46) ?_ rfl rfl (by kernel_rfl) (by kernel_rfl) (by kernel_rfl) (fun _ _ _ h => h) (by assumption) (by rfl) ?_ ?_
            rotate_left
            · intro w hSw
              try dsimp only at hSw
              try simp only [List.getElem_toArray, List.getElem_cons_succ, List.getElem_cons_zero]
              go_simp
              try with_reducible rfl
            try simp only [Act.put, setIfInBounds_toArray, set_cons_zero, set_cons_succ]
            refine wpAnyH_ready (rs := [35]) (by kernel_rfl) (by simp) ?_
            refine AllReadyH.cons rfl (fun K hK => ?_) AllReadyH.nil
            try simp only [List.getElem_toArray, List.getElem_cons_succ, List.getElem_cons_zero]
            go_simp
            (go_at_call 26; ((with_reducible refine (V6.out _ (tail_ak (by assumption))).mono ?_); rintro e w' ⟨rfl, hbb⟩))
            refine hK.out _ _ (keep_ak (by assumption) hbb) (fun hHeld => ?_)
            clear hK K
            try simp only [Act.put, setIfInBounds_toArray, set_cons_zero, set_cons_succ]
            as_aux_lemma =>
              refine held_take 36 (some 48) ?_ rfl rfl (by kernel_rfl) (by kernel_rfl) (by kernel_rfl) (fun _ _ _ h => h) (by assumption) (by rfl) ?_ ?_
              rotate_left
              · intro w hSw
                try dsimp only at hSw
                try simp only [List.getElem_toArray, List.getElem_cons_succ, List.getElem_cons_zero]
                go_simp
                try with_reducible rfl
              try simp only [Act.put, setIfInBounds_toArray, set_cons_zero, set_cons_succ]
              refine held_take 37 (some 49) ?_ rfl rfl (by kernel_rfl) (by kernel_rfl) (by kernel_rfl) (fun _ _ _ h => h) (by assumption) (by rfl) ?_ ?_
              rotate_left
              · intro w hSw
                try dsimp only at hSw
                try simp only [List.getElem_toArray, List.getElem_cons_succ, List.getElem_cons_zero]
                go_simp
                try with_reducible rfl
              try simp only [Act.put, setIfInBounds_toArray, set_cons_zero, set_cons_succ]
              refine held_take 38 (some 50) ?_ rfl rfl (by kernel_rfl) (by kernel_rfl) (by kernel_rfl) (fun _ _ _ h => h) (by assumption) (by rfl) ?_ ?_
              rotate_left
              · intro w hSw
                try dsimp only at hSw
                try simp only [List.getElem_toArray, List.getElem_cons_succ, List.getElem_cons_zero]
                go_simp
                try with_reducible rfl
              try simp only [Act.put, setIfInBounds_toArray, set_cons_zero, set_cons_succ]
              refine held_take 39 (some 51) ?_ rfl rfl (by kernel_rfl) (by kernel_rfl) (by kernel_rfl) (fun _ _ _ h => h) (by assumption) (by rfl) ?_ ?_
              rotate_left
              · intro w hSw
                try dsimp only at hSw
                try simp only [List.getElem_toArray, List.getElem_cons_succ, List.getElem_cons_zero]
                go_simp
                try with_reducible rfl
              try simp only [Act.put, setIfInBounds_toArray, set_cons_zero, set_cons_succ]
              refine wpAnyH_ready (rs := [40]) (by kernel_rfl) (by simp) ?_
              refine AllReadyH.cons rfl (fun K hK => ?_) AllReadyH.nil
              try simp only [List.getElem_toArray, List.getElem_cons_succ, List.getElem_cons_zero]
              go_simp
              (go_at_call 26; ((with_reducible refine (V7.out _).mono ?_); rintro e w' ⟨rfl, hbb⟩))
              refine hK.out _ _ (keep_ak (by assumption) hbb) (fun hHeld => ?_)
              clear hK K
              try simp only [Act.put, setIfInBounds_toArray, set_cons_zero, set_cons_succ]
              refine held_take 41 (some 53) ?_ rfl rfl (by kernel_rfl) (by kernel_rfl) (by kernel_rfl) (fun _ _ _ h => h) (by assumption) (by rfl) ?_ ?_
              rotate_left
              · intro w hSw
                try dsimp only at hSw
                try simp only [List.getElem_toArray, List.getElem_cons_succ, List.getElem_cons_zero]
                go_simp
                try with_reducible rfl
              try simp only [Act.put, setIfInBounds_toArray, set_cons_zero, set_cons_succ]
              as_aux_lemma =>
                refine held_take 42 (some 54) ?_ rfl rfl (by kernel_rfl) (by kernel_rfl) (by kernel_rfl) (fun _ _ _ h => h) (by assumption) (by rfl) ?_ ?_
                rotate_left
                · intro w hSw
                  try dsimp only at hSw
                  try simp only [List.getElem_toArray, List.getElem_cons_succ, List.getElem_cons_zero]
                  go_simp
                  try with_reducible rfl
                try simp only [Act.put, setIfInBounds_toArray, set_cons_zero, set_cons_succ]
                refine held_take 43 (some 55) ?_ rfl rfl (by kernel_rfl) (by kernel_rfl) (by kernel_rfl) (fun _ _ _ h => h) (by assumption) (by rfl) ?_ ?_
                rotate_left
                · intro w hSw
                  try dsimp only at hSw
                  try simp only [List.getElem_toArray, List.getElem_cons_succ, List.getElem_cons_zero]
                  go_simp
                  try with_reducible rfl
                try simp only [Act.put, setIfInBounds_toArray, set_cons_zero, set_cons_succ]
                refine held_take 44 (some 56) ?_ rfl rfl (by kernel_rfl) (by kernel_rfl) (by kernel_rfl) (fun _ _ _ h => h) (by assumption) (by rfl) ?_ ?_
                rotate_left
                · intro w hSw
                  try dsimp only at hSw
                  try simp only [List.getElem_toArray, List.getElem_cons_succ, List.getElem_cons_zero]
                  go_simp
                  try with_reducible rfl
                try simp only [Act.put, setIfInBounds_toArray, set_cons_zero, set_cons_succ]
                refine held_take 45 (some 57) ?_ rfl rfl (by kernel_rfl) (by kernel_rfl) (by kernel_rfl) (fun _ _ _ h => h) (by assumption) (by rfl) ?_ ?_
                rotate_left
                · intro w hSw
                  try dsimp only at hSw
                  try simp only [List.getElem_toArray, List.getElem_cons_succ, List.getElem_cons_zero]
                  go_simp
                  try with_reducible rfl
                try simp only [Act.put, setIfInBounds_toArray, set_cons_zero, set_cons_succ]
                refine wpAnyH_ready (rs := [46]) (by kernel_rfl) (by simp) ?_
                refine AllReadyH.cons rfl (fun K hK => ?_) AllReadyH.nil
                try simp only [List.getElem_toArray, List.getElem_cons_succ, List.getElem_cons_zero]
                go_simp
                (go_at_call 24; ((with_reducible refine (N8.out _).mono ?_); rintro e w' ⟨rfl, hbb⟩))
                refine hK.out _ _ (keep_ak (by assumption) hbb) (fun hHeld => ?_)
                clear hK K
                try simp only [Act.put, setIfInBounds_toArray, set_cons_zero, set_cons_succ]
                refine held_take 47 (some 59) ?_ rfl rfl (by kernel_rfl) (by kernel_rfl) (by kernel_rfl) (fun _ _ _ h => h) (by assumption) (by rfl) ?_ ?_
                rotate_left
                · intro w hSw
                  try dsimp only at hSw
                  try simp only [List.getElem_toArray, List.getElem_cons_succ, List.getElem_cons_zero]
                  go_simp
                  try with_reducible rfl
                try simp only [Act.put, setIfInBounds_toArray, set_cons_zero, set_cons_succ]
                as_aux_lemma =>
                  refine held_take 48 (some 60) ?_ rfl rfl (by kernel_rfl) (by kernel_rfl) (by kernel_rfl) (fun _ _ _ h => h) (by assumption) (by rfl) ?_ ?_
                  rotate_left
                  · intro w hSw
                    try dsimp only at hSw
                    try simp only [List.getElem_toArray, List.getElem_cons_succ, List.getElem_cons_zero]
                    go_simp
                    try with_reducible rfl
                  try simp only [Act.put, setIfInBounds_toArray, set_cons_zero, set_cons_succ]
                  refine held_take 49 (some 61) ?_ rfl rfl (by kernel_rfl) (by kernel_rfl) (by kernel_rfl) (fun _ _ _ h => h) (by assumption) (by rfl) ?_ ?_
                  rotate_left
                  · intro w hSw
                    try dsimp only at hSw
                    try simp only [List.getElem_toArray, List.getElem_cons_succ, List.getElem_cons_zero]
                    go_simp
                    try with_reducible rfl
                  try simp only [Act.put, setIfInBounds_toArray, set_cons_zero, set_cons_succ]
                  refine held_take 50 (some 62) ?_ rfl rfl (by kernel_rfl) (by kernel_rfl) (by kernel_rfl) (fun _ _ _ h => h) (by assumption) (by rfl) ?_ ?_
                  rotate_left
                  · intro w hSw
                    try dsimp only at hSw
                    try simp only [List.getElem_toArray, List.getElem_cons_succ, List.getElem_cons_zero]
                    go_simp
                    try with_reducible rfl
                  try simp only [Act.put, setIfInBounds_toArray, set_cons_zero, set_cons_succ]
                  refine held_take 51 (some 63) ?_ rfl rfl (by kernel_rfl) (by kernel_rfl) (by kernel_rfl) (fun _ _ _ h => h) (by assumption) (by rfl) ?_ ?_
                  rotate_left
                  · intro w hSw
                    try dsimp only at hSw
                    try simp only [List.getElem_toArray, List.getElem_cons_succ, List.getElem_cons_zero]
                    go_simp
                    try with_reducible rfl
                  try simp only [Act.put, setIfInBounds_toArray, set_cons_zero, set_cons_succ]
                  refine wpAnyH_ready (rs := [52]) (by kernel_rfl) (by simp) ?_
                  refine AllReadyH.cons rfl (fun K hK => ?_) AllReadyH.nil
                  try simp only [List.getElem_toArray, List.getElem_cons_succ, List.getElem_cons_zero]
                  go_simp
                  (go_at_call 24; ((with_reducible refine (N9.out _).mono ?_); rintro e w' ⟨rfl, hbb⟩))
                  refine hK.out _ _ (keep_ak (by assumption) hbb) (fun hHeld => ?_)
                  clear hK K
                  try simp only [Act.put, setIfInBounds_toArray, set_cons_zero, set_cons_succ]
                  refine held_take 53 (some 65) ?_ rfl rfl (by kernel_rfl) (by kernel_rfl) (by kernel_rfl) (fun _ _ _ h => h) (by assumption) (by rfl) ?_ ?_
                  rotate_left
                  · intro w hSw
                    try dsimp only at hSw
                    try simp only [List.getElem_toArray, List.getElem_cons_succ, List.getElem_cons_zero]
                    go_simp
                    try with_reducible rfl
                  try simp only [Act.put, setIfInBounds_toArray, set_cons_zero, set_cons_succ]
                  as_aux_lemma =>
                    refine held_take 54 (some 0) ?_ rfl rfl (by kernel_rfl) (by kernel_rfl) (by kernel_rfl) (fun _ _ _ h => h) (by assumption) (by rfl) ?_ ?_
                    rotate_left
                    · intro w hSw
                      try dsimp only at hSw
                      try simp only [List.getElem_toArray, List.getElem_cons_succ, List.getElem_cons_zero]
                      go_simp
                      try with_reducible rfl
                    try simp only [Act.put, setIfInBounds_toArray, set_cons_zero]
                    refine wpAnyH_done (by kernel_rfl) ?_ _
                    have hB := B5.trans ((tail_ak (by assumption)).mono B5.size)
                    go_wp2
                    go_ret
                    exact ⟨rfl, hB⟩
end Go.Proofs.YtcpjignlhlcnpaaDoor
