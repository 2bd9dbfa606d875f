/- Walks: how the document compares two versions: the same as the program does. -/
import Derived.Test.YtinidiiachedbaaDoorVmRef
import Derived.Sort.Walk0
namespace Go.Proofs.YtinidiiachedbaaDoor
open Go.RowKit Go.Shelf

theorem bl_irrefl : ∀ a : Bytes, Op.bytesLess a a = false
  | [] => rfl
  | x :: a => by simp [Op.bytesLess, bl_irrefl a]
theorem bl_total : ∀ a b : Bytes, Op.bytesLess a b = false → Op.bytesLess b a = false → a = b
  | [], [], _, _ => rfl
  | [], _ :: _, h, _ => by simp [Op.bytesLess] at h
  | _ :: _, [], _, h => by simp [Op.bytesLess] at h
  | x :: a, y :: b, h1, h2 => by
    simp only [Op.bytesLess, Bool.or_eq_false_iff, decide_eq_false_iff_not, Bool.and_eq_false_iff, beq_eq_false_iff_ne, ne_eq] at h1 h2
    have e : x = y := by
      apply UInt8.toNat_inj.1
      have q1 := h1.1; have q2 := h2.1
      rw [UInt8.lt_iff_toNat_lt] at q1 q2
      omega
    subst e
    have r1 : Op.bytesLess a b = false := by rcases h1.2 with h | h; · exact absurd rfl h
                                             · simpa using h
    have r2 : Op.bytesLess b a = false := by rcases h2.2 with h | h; · exact absurd rfl h
                                             · simpa using h
    rw [bl_total a b r1 r2]
theorem bl_asymm : ∀ a b : Bytes, Op.bytesLess a b = true → Op.bytesLess b a = false
  | [], [], h => by simp [Op.bytesLess] at h
  | [], _ :: _, _ => by simp [Op.bytesLess]
  | _ :: _, [], h => by simp [Op.bytesLess] at h
  | x :: a, y :: b, h => by
    simp only [Op.bytesLess, Bool.or_eq_true, decide_eq_true_eq, Bool.and_eq_true, beq_iff_eq] at h
    simp only [Op.bytesLess, Bool.or_eq_false_iff, decide_eq_false_iff_not, Bool.and_eq_false_iff, beq_eq_false_iff_ne, ne_eq]
    rcases h with h | ⟨rfl, h⟩
    · rw [UInt8.lt_iff_toNat_lt] at h
      refine ⟨by rw [UInt8.lt_iff_toNat_lt]; omega, .inl (fun e => ?_)⟩
      subst e; omega
    · exact ⟨by rw [UInt8.lt_iff_toNat_lt]; omega, .inr (bl_asymm a b h)⟩
theorem bl_trans : ∀ a b c : Bytes, Op.bytesLess a b = true → Op.bytesLess b c = true → Op.bytesLess a c = true
  | _, [], _, h, _ => by cases ‹Bytes› <;> simp [Op.bytesLess] at h
  | _, _ :: _, [], _, h => by simp [Op.bytesLess] at h
  | [], _ :: _, _ :: _, _, _ => by simp [Op.bytesLess]
  | x :: a, y :: b, z :: c, h1, h2 => by
    simp only [Op.bytesLess, Bool.or_eq_true, decide_eq_true_eq, Bool.and_eq_true, beq_iff_eq] at h1 h2 ⊢
    simp only [UInt8.lt_iff_toNat_lt] at h1 h2 ⊢
    rcases h1 with h1 | ⟨rfl, h1⟩ <;> rcases h2 with h2 | ⟨rfl, h2⟩
    · exact .inl (by omega)
    · exact .inl h1
    · exact .inl h2
    · exact .inr ⟨rfl, bl_trans a b c h1 h2⟩

/-- is a part less than another one? -/
def lessP (a b : Prt) : Bool := cmpP a b == -1
theorem cmpI_cases (a b : Int) : (cmpI a b = -1 ∧ a < b) ∨ (cmpI a b = 0 ∧ a = b) ∨ (cmpI a b = 1 ∧ b < a) := by
  unfold cmpI
  by_cases h1 : a < b
  · left; simp [h1]
  by_cases h2 : b < a
  · right; right; simp [h1, h2]
  · right; left; simp [h1, h2]; omega
theorem cmpL_cases (a b : Bytes) : (cmpL a b = -1 ∧ Op.bytesLess a b = true) ∨ (cmpL a b = 0 ∧ a = b) ∨ (cmpL a b = 1 ∧ Op.bytesLess b a = true) := by
  unfold cmpL
  cases h1 : Op.bytesLess a b with
  | true => left; simp
  | false =>
    by_cases h2 : a = b
    · right; left; simp [h2]
    · right; right
      refine ⟨by simp [h2], ?_⟩
      cases h3 : Op.bytesLess b a with
      | true => rfl
      | false => exact absurd (bl_total a b h1 h3) h2
theorem lessP_kind {a b : Prt} (h : a.1 ≠ b.1) : lessP a b = decide (a.1 < b.1) := by
  unfold lessP cmpP
  rcases cmpI_cases a.1 b.1 with ⟨e, h2⟩ | ⟨e, h2⟩ | ⟨e, h2⟩
  · rw [e]; simp [h2]
  · exact absurd h2 h
  · rw [e]; simp; omega
theorem lessP_len {a b : Prt} (h : a.1 = b.1) (h5 : a.1 = 5) (hl : a.2.length ≠ b.2.length) : lessP a b = decide (a.2.length < b.2.length) := by
  unfold lessP cmpP
  rw [if_neg (by rw [h]; rcases cmpI_cases b.1 b.1 with ⟨e, h2⟩ | ⟨e, h2⟩ | ⟨e, h2⟩ <;> simp [e] <;> omega)]
  rcases cmpI_cases a.2.length b.2.length with ⟨e, h2⟩ | ⟨e, h2⟩ | ⟨e, h2⟩
  · rw [if_pos ⟨h5, h ▸ h5, by rw [e]; decide⟩, e]; simp; omega
  · exact absurd (by omega) hl
  · rw [if_pos ⟨h5, h ▸ h5, by rw [e]; decide⟩, e]; simp; omega
theorem lessP_str {a b : Prt} (h : a.1 = b.1) (hl : a.1 = 5 → a.2.length = b.2.length) : lessP a b = Op.bytesLess a.2 b.2 := by
  unfold lessP cmpP
  rw [if_neg (by rw [h]; rcases cmpI_cases b.1 b.1 with ⟨e, h2⟩ | ⟨e, h2⟩ | ⟨e, h2⟩ <;> simp [e] <;> omega)]
  rw [if_neg (by
    rintro ⟨h1, h2, h3⟩
    rcases cmpI_cases a.2.length b.2.length with ⟨e, h4⟩ | ⟨e, h4⟩ | ⟨e, h4⟩
    · have := hl h1; omega
    · exact h3 e
    · have := hl h1; omega)]
  rcases cmpL_cases a.2 b.2 with ⟨e, h4⟩ | ⟨e, h4⟩ | ⟨e, h4⟩
  · rw [e, h4]; rfl
  · rw [e, h4, bl_irrefl]; rfl
  · rw [e, bl_asymm _ _ h4]; rfl

def Bx2 (w : World) (ka kb : Int) (ta tb : Bytes) (A : World) : Prop :=
  A.cell? ⟨w.heap.size, 0, none⟩ = some (.int .u8 ka) ∧ A.cell? ⟨w.heap.size, 1, none⟩ = some (.string (bs ta)) ∧ A.cell? ⟨w.heap.size + 1, 0, none⟩ = some (.int .u8 kb) ∧ A.cell? ⟨w.heap.size + 1, 1, none⟩ = some (.string (bs tb)) ∧ Below w.heap.size w A
theorem Bx2.drewN {w : World} {ka kb : Int} {ta tb : Bytes} {A : World} (h : Bx2 w ka kb ta tb A) (n : Nat) : Bx2 w ka kb ta tb (A.drewN n) := ⟨h.1, h.2.1, h.2.2.1, h.2.2.2.1, h.2.2.2.2.trans ⟨rfl, rfl, rfl, Nat.le_refl _, fun _ _ => rfl⟩⟩
theorem bx2 (w : World) (ka kb : Int) (ta tb : Bytes) : Bx2 w ka kb ta tb ((w.alloc (.cells #[.int .u8 ka, .string (bs ta)] 107)).alloc (.cells #[.int .u8 kb, .string (bs tb)] 107)) :=
  ⟨(World.cell?_alloc_past _ _ _ (by simp)).trans ((World.cell?_alloc_at _ _ _ _ rfl).trans rfl), (World.cell?_alloc_past _ _ _ (by simp)).trans ((World.cell?_alloc_at _ _ _ _ rfl).trans rfl),
   (World.cell?_alloc_at _ _ _ _ (by simp)).trans rfl, (World.cell?_alloc_at _ _ _ _ (by simp)).trans rfl, ((Below.refl _ _).alloc (Nat.le_refl _) _).alloc (by simp) _⟩

set_option maxRecDepth 100000 in
set_option maxHeartbeats 2000000 in
theorem below_any (a b : Prt) (w : World) : Calls Tryd.prog 72 #[.agg #[.int .u8 a.1, .string (bs a.2)], .agg #[.int .u8 b.1, .string (bs b.2)]] w fun e w' => e = .returned (.bool (lessP a b)) ∧ Below w.heap.size w w' := by
  have q := bx2 w a.1 b.1 a.2 b.2
  have L1 := Lib.hid (fun h => lessP_kind (a := a) (b := b) h)
  have L2 := Lib.hid (fun h => lessP_len (a := a) (b := b) h)
  have L3 := Lib.hid (fun h => lessP_str (a := a) (b := b) h)
  obtain ⟨ka, ta⟩ := a
  obtain ⟨kb, tb⟩ := b
  dsimp only at q L1 L2 L3 ⊢
  go_enter Tryd.func72, Tryd.ntmps72
  obtain ⟨_, _, _, _, hB⟩ := q
  by_cases hk : ka = kb
  · subst hk
    by_cases h5 : ka = 5
    · subst h5
      by_cases hl : ta.length = tb.length
      · have hl0 : (((bs ta).size : Int) == ((bs tb).size : Int)) = true := by rw [bs_size, bs_size, hl]; simp
        have hl1 : (((bs ta).size : Int) != ((bs tb).size : Int)) = false := by rw [bs_size, bs_size, hl]; simp
        have H := Lib.hid (L3.out rfl (fun _ => hl))
        clear hl
        go_wp2
        go_ret
        exact ⟨ret_bool (by rw [H.out, bs_toList, bs_toList]), hB⟩
      · have hl0 : (((bs ta).size : Int) == ((bs tb).size : Int)) = false := by rw [bs_size, bs_size]; simp; omega
        have hl1 : (((bs ta).size : Int) != ((bs tb).size : Int)) = true := by rw [bs_size, bs_size]; simp; omega
        have H := Lib.hid (L2.out rfl rfl hl)
        clear hl
        go_wp2
        go_ret
        exact ⟨ret_bool (by simp [H.out, bs_size]), hB⟩
    · have h50 : (ka == 5) = false := by simpa using h5
      have H := Lib.hid (L3.out rfl (fun h => absurd h h5))
      go_wp2
      go_ret
      exact ⟨ret_bool (by rw [H.out, bs_toList, bs_toList]), hB⟩
  · have hk0 : (ka == kb) = false := by simpa using hk
    have H := Lib.hid (L1.out hk)
    go_wp2
    go_ret
    exact ⟨ret_bool H.out.symm, hB⟩

/-- a part of the row, or the end -/
def atP (l : List Prt) (i : Nat) : Prt := (l[i]?).getD fin
set_option maxRecDepth 100000 in
set_option maxHeartbeats 2000000 in
theorem at_any (l : List Prt) (A : Option Addr) (cap i : Nat) (w : World) (h : Rd encP 2 w.heap.size A cap l w) : Calls Tryd.prog 73 #[.slice A l.length cap, .int .i64 (i : Int)] w fun e w' => e = .returned (.agg #[.int .u8 (atP l i).1, .string (bs (atP l i).2)]) ∧ Below w.heap.size w w' := by
  have hl := h.len
  by_cases hi : i < l.length
  · obtain ⟨b, o, rfl, hb, x0, x1⟩ := h.at2 (f := fun p : Prt => .int .u8 p.1) (g := fun p : Prt => .string (bs p.2)) (fun _ => rfl) hi
    have ha : atP l i = l[i] := by simp [atP, hi]
    rw [ha]
    generalize l[i] = p at *
    generalize hn : l.length = n at *
    have i0 : (0 : Int) ≤ (i : Int) := by omega
    have i1 : (i : Int) < (n : Int) := by omega
    clear h ha
    go_enter Tryd.func73, Tryd.ntmps73
    go_wp2
    refine bodyPost_ret (v := .agg #[.int .u8 p.1, .string (bs p.2)]) (by simp [results, Tryd.results73, go_sem]) rfl ?_
    exact ⟨rfl, (Below.refl _ _).alloc (Nat.le_refl _) _⟩
  · have ha : atP l i = fin := by simp [atP, List.getElem?_eq_none (by omega : l.length ≤ i)]
    rw [ha]
    generalize hn : l.length = n at *
    have i1 : (n : Int) ≤ (i : Int) := by omega
    clear h ha
    go_enter Tryd.func73, Tryd.ntmps73
    go_wp2
    refine bodyPost_ret (v := .agg #[.int .u8 2, .string ⟨#[]⟩]) (by simp [results, Tryd.results73, go_sem]) rfl ?_
    exact ⟨rfl, (Below.refl _ _).alloc (Nat.le_refl _) _⟩

/- the order of parts -/
theorem cmpI_neg (a b : Int) : cmpI b a = - cmpI a b := by
  rcases cmpI_cases a b with ⟨e, h⟩ | ⟨e, h⟩ | ⟨e, h⟩ <;> rcases cmpI_cases b a with ⟨e2, h2⟩ | ⟨e2, h2⟩ | ⟨e2, h2⟩ <;> rw [e, e2] <;> first | rfl | (exfalso; omega)
theorem cmpL_neg (a b : Bytes) : cmpL b a = - cmpL a b := by
  rcases cmpL_cases a b with ⟨e, h⟩ | ⟨e, h⟩ | ⟨e, h⟩ <;> rcases cmpL_cases b a with ⟨e2, h2⟩ | ⟨e2, h2⟩ | ⟨e2, h2⟩ <;> rw [e, e2] <;> first | rfl | skip
  · rw [bl_asymm _ _ h] at h2; cases h2
  · rw [h2, bl_irrefl] at h; cases h
  · rw [h, bl_irrefl] at h2; cases h2
  · rw [h, bl_irrefl] at h2; cases h2
  · rw [h2, bl_irrefl] at h; cases h
  · rw [bl_asymm _ _ h] at h2; cases h2
theorem cmpP_or (a b : Prt) : cmpP a b = or3 (cmpI a.1 b.1) (if a.1 = 5 ∧ b.1 = 5 then cmpI a.2.length b.2.length else 0) (cmpL a.2 b.2) := by
  by_cases h : a.1 = 5 ∧ b.1 = 5
  · rw [cmpP_both h.1 h.2, if_pos h]
  · rw [cmpP_not h, if_neg h]
theorem or3_neg (a b c : Int) : or3 (-a) (-b) (-c) = - or3 a b c := by
  unfold or3
  by_cases h1 : a = 0 <;> by_cases h2 : b = 0 <;> simp [h1, h2]
theorem cmpP_neg (a b : Prt) : cmpP b a = - cmpP a b := by
  rw [cmpP_or, cmpP_or, ← or3_neg, cmpI_neg a.1 b.1, cmpL_neg a.2 b.2]
  congr 1
  by_cases h : a.1 = 5 ∧ b.1 = 5
  · rw [if_pos h, if_pos ⟨h.2, h.1⟩, cmpI_neg]
  · rw [if_neg h, if_neg (fun h2 => h ⟨h2.2, h2.1⟩)]; rfl
theorem or3_zero {a b c : Int} (h : or3 a b c = 0) : a = 0 ∧ c = 0 := by
  unfold or3 at h
  by_cases h1 : a = 0 <;> by_cases h2 : b = 0 <;> simp_all
theorem cmpP_zero {a b : Prt} (h : cmpP a b = 0) : a = b := by
  rw [cmpP_or] at h
  obtain ⟨h1, h2⟩ := or3_zero h
  have e1 : a.1 = b.1 := by rcases cmpI_cases a.1 b.1 with ⟨e, h3⟩ | ⟨e, h3⟩ | ⟨e, h3⟩ <;> simp_all
  have e2 : a.2 = b.2 := by rcases cmpL_cases a.2 b.2 with ⟨e, h3⟩ | ⟨e, h3⟩ | ⟨e, h3⟩ <;> simp_all
  exact Prod.ext e1 e2
theorem cmpP_self (a : Prt) : cmpP a a = 0 := by
  have := cmpP_neg a a; omega
theorem or3_cases {a b c : Int} (ha : a = -1 ∨ a = 0 ∨ a = 1) (hb : b = -1 ∨ b = 0 ∨ b = 1) (hc : c = -1 ∨ c = 0 ∨ c = 1) : or3 a b c = -1 ∨ or3 a b c = 0 ∨ or3 a b c = 1 := by
  unfold or3
  by_cases h1 : a = 0 <;> by_cases h2 : b = 0 <;> simp_all
theorem cmpI_three (a b : Int) : cmpI a b = -1 ∨ cmpI a b = 0 ∨ cmpI a b = 1 := by rcases cmpI_cases a b with ⟨e, _⟩ | ⟨e, _⟩ | ⟨e, _⟩ <;> simp [e]
theorem cmpL_three (a b : Bytes) : cmpL a b = -1 ∨ cmpL a b = 0 ∨ cmpL a b = 1 := by rcases cmpL_cases a b with ⟨e, _⟩ | ⟨e, _⟩ | ⟨e, _⟩ <;> simp [e]
theorem cmpP_cases (a b : Prt) : cmpP a b = -1 ∨ cmpP a b = 0 ∨ cmpP a b = 1 := by
  rw [cmpP_or]
  refine or3_cases (cmpI_three _ _) ?_ (cmpL_three _ _)
  by_cases h : a.1 = 5 ∧ b.1 = 5
  · rw [if_pos h]; exact cmpI_three _ _
  · rw [if_neg h]; simp
theorem glue_kinds {k : Int} {c : UInt8} (hk : k ≠ 2) : ∀ (l : Bytes) (r : List Prt), (∀ p ∈ r, p.1 ≠ 2) → ∀ p ∈ glue k c l r, p.1 ≠ 2
  | [], r, hr, p, hp => by
    simp only [glue, List.mem_cons] at hp
    rcases hp with rfl | hp
    · exact hk
    · exact hr p hp
  | d :: l, [], hr, p, hp => by
    simp only [glue, List.mem_cons] at hp
    rcases hp with rfl | hp
    · exact hk
    · exact hr p hp
  | d :: l, (j, t) :: r, hr, p, hp => by
    simp only [glue] at hp
    split at hp
    · simp only [List.mem_cons] at hp
      rcases hp with rfl | hp
      · exact hr (j, t) (by simp)
      · exact hr p (by simp [hp])
    · simp only [List.mem_cons] at hp
      rcases hp with rfl | hp
      · exact hk
      · exact hr p (by simpa using hp)
theorem kk_ne2 (c : UInt8) : kk c ≠ 2 := by unfold kk; rcases kd_cases c.toNat with h | h | h | h | h <;> rw [h] <;> decide
theorem raw_kinds : ∀ (l : Bytes), ∀ p ∈ raw l, p.1 ≠ 2
  | [], p, hp => by simp [raw] at hp
  | c :: l, p, hp => by
    rw [raw] at hp
    split at hp
    · exact raw_kinds l p hp
    split at hp
    · simp only [List.mem_cons] at hp
      rcases hp with rfl | hp
      · exact kk_ne2 c
      · exact raw_kinds l p hp
    · exact glue_kinds (kk_ne2 c) l (raw l) (raw_kinds l) p hp
theorem pts_kinds (l : Bytes) : ∀ p ∈ pts l, p.1 ≠ 2 := by
  intro p hp
  simp only [pts, List.mem_map] at hp
  obtain ⟨q, hq, rfl⟩ := hp
  exact raw_kinds l q hq
theorem atP_lt {l : List Prt} {k : Nat} (h : k < l.length) : atP l k = l[k] := by simp [atP, h]
theorem atP_ge {l : List Prt} {k : Nat} (h : l.length ≤ k) : atP l k = fin := by simp [atP, h]
theorem atP_at {l : List Prt} {k : Nat} (h : k ≤ l.length) (h2 : k < (l ++ [fin]).length) : (l ++ [fin])[k] = atP l k := by
  by_cases e : k < l.length
  · rw [List.getElem_append_left e, atP_lt e]
  · obtain rfl : k = l.length := by omega
    rw [atP_ge (Nat.le_refl _)]; simp
/-- one round of the document's loop -/
theorem comp_round {a b : Bytes} {k : Nat} (h1 : k ≤ (pts a).length) (h2 : k ≤ (pts b).length) (hc : comp a b = cmpV ((pts a ++ [fin]).drop k) ((pts b ++ [fin]).drop k)) :
    (cmpP (atP (pts a) k) (atP (pts b) k) ≠ 0 → comp a b = cmpP (atP (pts a) k) (atP (pts b) k)) ∧
    (cmpP (atP (pts a) k) (atP (pts b) k) = 0 → (k < (pts a).length ∨ k < (pts b).length) → k < (pts a).length ∧ k < (pts b).length ∧ comp a b = cmpV ((pts a ++ [fin]).drop (k + 1)) ((pts b ++ [fin]).drop (k + 1))) := by
  rw [cmpV_at (by simp; omega) (by simp; omega), atP_at h1, atP_at h2] at hc
  refine ⟨fun h => by rw [if_pos h] at hc; exact hc, fun h h3 => ?_⟩
  rw [if_neg (by simpa using h)] at hc
  have e := cmpP_zero h
  by_cases ha : k < (pts a).length <;> by_cases hb : k < (pts b).length
  · exact ⟨ha, hb, hc⟩
  · rw [atP_lt ha, atP_ge (by omega)] at e
    exact absurd (by rw [e]; rfl) (pts_kinds a _ (List.getElem_mem ha))
  · rw [atP_lt hb, atP_ge (by omega)] at e
    exact absurd (by rw [← e]; rfl) (pts_kinds b _ (List.getElem_mem hb))
  · omega
theorem comp_last {a b : Bytes} {k : Nat} (h1 : k = (pts a).length) (h2 : k = (pts b).length) (hc : comp a b = cmpV ((pts a ++ [fin]).drop k) ((pts b ++ [fin]).drop k)) : comp a b = 0 := by
  rw [hc]
  conv => lhs; arg 1; rw [h1, List.drop_left]
  rw [h2, List.drop_left]
  decide
end Go.Proofs.YtinidiiachedbaaDoor
