/- Ranges, in plain terms: an Op by its three bits; turned about, both, more, parted. -/
import Derived.Test.YtinidiiachedbaaDoorSpHas
import Derived.Laws.BitsAllLaws
import Derived.Laws.BitsLemmas
namespace Go.Proofs.YtinidiiachedbaaDoor
open Go.RowKit

/-- the three bits -/
def opm (n : Int) : Nat := (n % 8).toNat
def side8 (c : Int) : Nat := if c < 0 then 1 else if c = 0 then 2 else 4
def has8 (d : Nat) (c : Int) : Bool := d == 0 || (d &&& side8 c) != 0
def meet8 (a b : Nat) (c : Int) : Bool := a == 0 || (b == 0 || (if c < 0 then (a &&& 4) != 0 || (b &&& 1) != 0 else if 0 < c then (a &&& 1) != 0 || (b &&& 4) != 0 else (a &&& b) != 0))
theorem opm_lt (n : Int) : opm n < 8 := by unfold opm; omega
theorem and_small : ∀ n : Fin 256, ∀ s : Fin 8, (n.val &&& s.val) = ((n.val % 8) &&& s.val) := by decide +kernel
theorem and7 (n : Nat) : n &&& 7 = n % 8 := Nat.and_two_pow_sub_one_eq_mod n 3
theorem band_opm {n : Int} (h0 : 0 ≤ n) (h1 : n ≤ 255) (s : Nat) (hs : s < 8) : (band n s != 0) = ((opm n &&& s) != 0) := by
  obtain ⟨k, rfl⟩ := Int.eq_ofNat_of_zero_le h0
  have hk : k < 256 := by omega
  unfold band opm
  rw [u8_and_nat k s hk (by omega), show ((k : Int) % 8).toNat = k % 8 by omega, and_small ⟨k, hk⟩ ⟨s, hs⟩]
  rw [Bool.eq_iff_iff]
  simp only [bne_iff_ne, ne_eq]
  omega
theorem band2_opm {a b : Int} (h0 : 0 ≤ a) (h1 : a ≤ 255) (h2 : 0 ≤ b) (h3 : b ≤ 255) : (band (band a b) 7 != 0) = ((opm a &&& opm b) != 0) := by
  obtain ⟨k, rfl⟩ := Int.eq_ofNat_of_zero_le h0
  obtain ⟨m, rfl⟩ := Int.eq_ofNat_of_zero_le h2
  have hk : k < 256 := by omega
  have hm : m < 256 := by omega
  have hkm : (k &&& m) < 256 := Nat.lt_of_le_of_lt Nat.and_le_left hk
  unfold band opm
  rw [u8_and_nat k m hk hm, show (7 : Int) = ((7 : Nat) : Int) from rfl, u8_and_nat _ 7 hkm (by omega), show ((k : Int) % 8).toNat = k % 8 by omega, show ((m : Int) % 8).toNat = m % 8 by omega]
  have e : (k &&& m) &&& 7 = (k % 8) &&& (m % 8) := by
    rw [← and7 k, ← and7 m]
    rw [Nat.and_assoc, Nat.and_assoc, ← Nat.and_assoc 7 m 7, Nat.and_comm 7 m, Nat.and_assoc m 7 7, Nat.and_self]
  rw [e]
  rw [Bool.eq_iff_iff]
  simp only [bne_iff_ne, ne_eq]
  omega
theorem tmod_opm {n : Int} (h0 : 0 ≤ n) : (n.tmod 8 == 0) = (opm n == 0) := by
  obtain ⟨k, rfl⟩ := Int.eq_ofNat_of_zero_le h0
  unfold opm
  rw [Int.tmod_eq_emod_of_nonneg (by omega)]
  rw [Bool.eq_iff_iff]
  simp only [beq_iff_eq]
  omega
def Dp.okop (d : Dp) : Prop := 0 ≤ d.op ∧ d.op ≤ 255
theorem meetP_8 {a b : Dp} (ha : a.okop) (hb : b.okop) : meetP a b = meet8 (opm a.op) (opm b.op) (ecmp a.evr b.evr) := by
  unfold meetP meet8
  rw [tmod_opm ha.1, tmod_opm hb.1]
  dsimp only
  rw [show band a.op 4 = band a.op ((4 : Nat) : Int) from rfl, show band b.op 1 = band b.op ((1 : Nat) : Int) from rfl, show band a.op 1 = band a.op ((1 : Nat) : Int) from rfl, show band b.op 4 = band b.op ((4 : Nat) : Int) from rfl,
    band_opm ha.1 ha.2 4 (by omega), band_opm hb.1 hb.2 1 (by omega), band_opm ha.1 ha.2 1 (by omega), band_opm hb.1 hb.2 4 (by omega), band2_opm ha.1 ha.2 hb.1 hb.2]
theorem side_8 (c : Int) : sideI c = ((side8 c : Nat) : Int) := by unfold sideI side8; split; · rfl
                                                                   split <;> rfl
theorem side8_lt (c : Int) : side8 c < 8 := by unfold side8; split; · omega
                                               split <;> omega
theorem hasP_8 {d : Dp} {e : Evr} (hd : d.okop) : hasP d e = has8 (opm d.op) (ecmp e d.evr) := by
  unfold hasP has8
  rw [tmod_opm hd.1, side_8, band_opm hd.1 hd.2 _ (side8_lt _)]
/- EVRs, three of them -/
theorem ecmp_neg (a b : Evr) : ecmp b a = - ecmp a b := by
  unfold ecmp
  have e1 := cmpI_neg a.epoch b.epoch
  have e2 := comp_neg a.ver b.ver
  have e3 := comp_neg a.rel b.rel
  rw [e1, e2, e3]
  by_cases h1 : cmpI a.epoch b.epoch = 0 <;> by_cases h2 : comp a.ver b.ver = 0 <;> by_cases h3 : a.rel = [] <;> by_cases h4 : b.rel = [] <;> simp [h1, h2, h3, h4]
theorem ecmp_self (a : Evr) : ecmp a a = 0 := by have := ecmp_neg a a; omega
/-- with releases: the first that tells of three -/
def ecmp3 (a b : Evr) : Int := if cmpI a.epoch b.epoch ≠ 0 then cmpI a.epoch b.epoch else if comp a.ver b.ver ≠ 0 then comp a.ver b.ver else comp a.rel b.rel
theorem ecmp_full {a b : Evr} (ha : a.rel ≠ []) (hb : b.rel ≠ []) : ecmp a b = ecmp3 a b := by
  unfold ecmp ecmp3
  by_cases h1 : cmpI a.epoch b.epoch = 0 <;> by_cases h2 : comp a.ver b.ver = 0 <;> simp [h1, h2, ha, hb]
theorem cmpI_le_trans {a b c : Int} (h1 : cmpI a b ≤ 0) (h2 : cmpI b c ≤ 0) : cmpI a c ≤ 0 ∧ (cmpI a c = 0 ↔ cmpI a b = 0 ∧ cmpI b c = 0) := by
  rcases cmpI_cases a b with ⟨e1, g1⟩ | ⟨e1, g1⟩ | ⟨e1, g1⟩ <;> rcases cmpI_cases b c with ⟨e2, g2⟩ | ⟨e2, g2⟩ | ⟨e2, g2⟩ <;> rcases cmpI_cases a c with ⟨e3, g3⟩ | ⟨e3, g3⟩ | ⟨e3, g3⟩ <;> omega
theorem lex_trans {x1 x2 x3 y1 y2 y3 : Int} (hx : x1 ≤ 0 → x2 ≤ 0 → x3 ≤ 0 ∧ (x3 = 0 ↔ x1 = 0 ∧ x2 = 0)) (hy : y1 ≤ 0 → y2 ≤ 0 → y3 ≤ 0 ∧ (y3 = 0 ↔ y1 = 0 ∧ y2 = 0))
    (h1 : (if x1 ≠ 0 then x1 else y1) ≤ 0) (h2 : (if x2 ≠ 0 then x2 else y2) ≤ 0) :
    (if x3 ≠ 0 then x3 else y3) ≤ 0 ∧ ((if x3 ≠ 0 then x3 else y3) = 0 ↔ (if x1 ≠ 0 then x1 else y1) = 0 ∧ (if x2 ≠ 0 then x2 else y2) = 0) := by
  by_cases a1 : x1 = 0
  · rw [show (if x1 ≠ 0 then x1 else y1) = y1 from if_neg (fun h => h a1)] at h1 ⊢
    by_cases a2 : x2 = 0
    · rw [show (if x2 ≠ 0 then x2 else y2) = y2 from if_neg (fun h => h a2)] at h2 ⊢
      have g := hx (by omega) (by omega)
      have a3 : x3 = 0 := g.2.2 ⟨a1, a2⟩
      rw [show (if x3 ≠ 0 then x3 else y3) = y3 from if_neg (fun h => h a3)]
      exact hy h1 h2
    · rw [show (if x2 ≠ 0 then x2 else y2) = x2 from if_pos a2] at h2 ⊢
      have g := hx (by omega) h2
      have a3 : ¬ x3 = 0 := fun h => a2 (g.2.1 h).2
      rw [show (if x3 ≠ 0 then x3 else y3) = x3 from if_pos a3]
      exact ⟨g.1, fun h => absurd h a3, fun h => absurd h.2 a2⟩
  · rw [show (if x1 ≠ 0 then x1 else y1) = x1 from if_pos a1] at h1 ⊢
    have g2 : x2 ≤ 0 := by
      by_cases a2 : x2 = 0
      · omega
      · rw [show (if x2 ≠ 0 then x2 else y2) = x2 from if_pos a2] at h2; exact h2
    have g := hx h1 g2
    have a3 : ¬ x3 = 0 := fun h => a1 (g.2.1 h).1
    rw [show (if x3 ≠ 0 then x3 else y3) = x3 from if_pos a3]
    exact ⟨g.1, fun h => absurd h a3, fun h => absurd h.1 a1⟩
theorem ecmp3_le_trans {a b c : Evr} (h1 : ecmp3 a b ≤ 0) (h2 : ecmp3 b c ≤ 0) : ecmp3 a c ≤ 0 ∧ (ecmp3 a c = 0 ↔ ecmp3 a b = 0 ∧ ecmp3 b c = 0) :=
  lex_trans cmpI_le_trans (lex_trans comp_le_trans comp_le_trans) h1 h2
theorem ecmp_le_trans {a b c : Evr} (ha : a.rel ≠ []) (hb : b.rel ≠ []) (hc : c.rel ≠ []) (h1 : ecmp a b ≤ 0) (h2 : ecmp b c ≤ 0) : ecmp a c ≤ 0 ∧ (ecmp a c = 0 ↔ ecmp a b = 0 ∧ ecmp b c = 0) := by
  rw [ecmp_full ha hb] at *
  rw [ecmp_full hb hc] at *
  rw [ecmp_full ha hc] at *
  exact ecmp3_le_trans h1 h2
/- the laws on three bits -/
theorem meet8_turn : ∀ a b : Fin 8, meet8 a b (-1) = meet8 b a 1 ∧ meet8 a b 0 = meet8 b a 0 ∧ meet8 a b 1 = meet8 b a (-1) := by decide +kernel
theorem meet8_self : ∀ a : Fin 8, meet8 a a 0 = true := by decide +kernel
theorem meet8_equal : ∀ b : Fin 8, meet8 2 b (-1) = has8 b (-1) ∧ meet8 2 b 0 = has8 b 0 ∧ meet8 2 b 1 = has8 b 1 := by decide +kernel
theorem has8_parted : (∀ c : Fin 3, ((has8 1 (c.val - 1)).toNat + (has8 2 (c.val - 1)).toNat + (has8 4 (c.val - 1)).toNat = 1) ∧ has8 3 (c.val - 1) = (has8 1 (c.val - 1) || has8 2 (c.val - 1)) ∧ has8 6 (c.val - 1) = (has8 2 (c.val - 1) || has8 4 (c.val - 1)) ∧ has8 2 (c.val - 1) = ((c.val : Int) - 1 == 0)) := by decide +kernel
theorem more8 : ∀ a b : Fin 8, ∀ c s : Fin 3, a.val ≠ 0 → (meet8 a b (c.val - 1) = true → meet8 (a.val ||| (1 <<< s.val)) b (c.val - 1) = true) ∧ (has8 a (c.val - 1) = true → has8 (a.val ||| (1 <<< s.val)) (c.val - 1) = true) := by decide +kernel
def cons3 (x y z : Fin 3) : Bool := (z.val != 1 || x.val == y.val) && (z.val != 0 || x.val == 2 || y.val == 0) && (z.val != 2 || x.val == 0 || y.val == 2)
theorem both8 : ∀ a b : Fin 8, ∀ x y z : Fin 3, (has8 a (x.val - 1) && has8 b (y.val - 1) && cons3 x y z) = true → meet8 a b (z.val - 1) = true := by decide +kernel
/- the laws on ranges -/
theorem fin3 (c : Int) (h : c = -1 ∨ c = 0 ∨ c = 1) : ∃ x : Fin 3, c = x.val - 1 := by
  rcases h with rfl | rfl | rfl
  · exact ⟨0, rfl⟩
  · exact ⟨1, rfl⟩
  · exact ⟨2, rfl⟩
theorem meet_turn {a b : Dp} (ha : a.okop) (hb : b.okop) : meetP a b = meetP b a := by
  rw [meetP_8 ha hb, meetP_8 hb ha, ecmp_neg a.evr b.evr]
  have h := meet8_turn ⟨opm a.op, opm_lt _⟩ ⟨opm b.op, opm_lt _⟩
  rcases ecmp_three a.evr b.evr with e | e | e <;> rw [e]
  · exact h.1
  · exact h.2.1
  · exact h.2.2
theorem meet_self {a : Dp} (ha : a.okop) : meetP a a = true := by
  rw [meetP_8 ha ha, ecmp_self]
  exact meet8_self ⟨opm a.op, opm_lt _⟩
theorem meet_any0 {a b : Dp} (h : a.op = 0) : meetP a b = true := by unfold meetP; rw [h]; rfl
theorem meet_0any {a b : Dp} (h : b.op = 0) : meetP a b = true := by
  unfold meetP
  rw [show (b.op.tmod 8 == 0) = true by rw [h]; rfl]
  simp
theorem meet_name (a b : Dp) (n : Bytes) : meetP a { b with name := n } = meetP a b := rfl
theorem meet_equal {a b : Dp} (hb : b.okop) : meetP { a with op := 2 } b = hasP b a.evr := by
  rw [meetP_8 (a := { a with op := 2 }) ⟨(show (0 : Int) ≤ 2 by decide), (show (2 : Int) ≤ 255 by decide)⟩ hb, hasP_8 hb]
  have h := meet8_equal ⟨opm b.op, opm_lt _⟩
  dsimp only
  rcases ecmp_three a.evr b.evr with e | e | e <;> rw [e]
  · exact h.1
  · exact h.2.1
  · exact h.2.2
theorem meet_both {a b : Dp} {e : Evr} (ha : a.okop) (hb : b.okop) (h1 : a.evr.rel ≠ []) (h2 : b.evr.rel ≠ []) (h3 : e.rel ≠ []) (x : hasP a e = true) (y : hasP b e = true) : meetP a b = true := by
  rw [meetP_8 ha hb]
  rw [hasP_8 ha] at x
  rw [hasP_8 hb] at y
  have t1 := fun p q => ecmp_le_trans (a := e) (b := a.evr) (c := b.evr) h3 h1 h2 p q
  have t2 := fun p q => ecmp_le_trans (a := b.evr) (b := a.evr) (c := e) h2 h1 h3 p q
  have t3 := fun p q => ecmp_le_trans (a := e) (b := b.evr) (c := a.evr) h3 h2 h1 p q
  rw [ecmp_neg a.evr b.evr, ecmp_neg e a.evr, ecmp_neg e b.evr] at t2
  rw [ecmp_neg a.evr b.evr] at t3
  obtain ⟨p, hp⟩ := fin3 _ (ecmp_three e a.evr)
  obtain ⟨q, hq⟩ := fin3 _ (ecmp_three e b.evr)
  obtain ⟨r, hr⟩ := fin3 _ (ecmp_three a.evr b.evr)
  rw [hp] at x t1 t2 t3
  rw [hq] at y t1 t2 t3
  rw [hr] at t1 t2 t3 ⊢
  refine both8 ⟨opm a.op, opm_lt _⟩ ⟨opm b.op, opm_lt _⟩ p q r ?_
  rw [Bool.and_eq_true, Bool.and_eq_true]
  refine ⟨⟨x, y⟩, ?_⟩
  have p3 := p.isLt
  have q3 := q.isLt
  have r3 := r.isLt
  unfold cons3
  simp only [Bool.and_eq_true, Bool.or_eq_true, bne_iff_ne, beq_iff_eq, ne_eq]
  omega
theorem or_opm {n : Int} (h0 : 0 ≤ n) (h1 : n ≤ 255) (s : Fin 3) : opm (bits .or .u8 n ((1 <<< s.val : Nat) : Int)) = opm n ||| (1 <<< s.val) ∧ 0 ≤ bits .or .u8 n ((1 <<< s.val : Nat) : Int) ∧ bits .or .u8 n ((1 <<< s.val : Nat) : Int) ≤ 255 := by
  obtain ⟨k, rfl⟩ := Int.eq_ofNat_of_zero_le h0
  have hk : k < 256 := by omega
  have hs : 1 <<< s.val < 256 := by revert s; decide
  rw [u8_or_nat k _ hk hs]
  have h : ∀ k : Fin 256, ∀ s : Fin 3, (k.val ||| (1 <<< s.val)) % 8 = (k.val % 8) ||| (1 <<< s.val) ∧ (k.val ||| (1 <<< s.val)) ≤ 255 := by decide +kernel
  have h2 := h ⟨k, hk⟩ s
  dsimp only at h2
  unfold opm
  refine ⟨?_, by omega, by omega⟩
  rw [show (((k ||| 1 <<< s.val : Nat) : Int) % 8).toNat = (k ||| 1 <<< s.val) % 8 by omega, show ((k : Int) % 8).toNat = k % 8 by omega]
  exact h2.1
theorem meet_more {a b : Dp} {s : Fin 3} (ha : a.okop) (hb : b.okop) (h0 : opm a.op ≠ 0) (h : meetP a b = true) : meetP { a with op := bits .or .u8 a.op ((1 <<< s.val : Nat) : Int) } b = true := by
  have o := or_opm ha.1 ha.2 s
  rw [meetP_8 (a := { a with op := bits .or .u8 a.op ((1 <<< s.val : Nat) : Int) }) ⟨o.2.1, o.2.2⟩ hb]
  rw [meetP_8 ha hb] at h
  dsimp only
  rw [o.1]
  obtain ⟨r, hr⟩ := fin3 _ (ecmp_three a.evr b.evr)
  rw [hr] at h ⊢
  exact (more8 ⟨opm a.op, opm_lt _⟩ ⟨opm b.op, opm_lt _⟩ r s h0).1 h
theorem has_more {a : Dp} {e : Evr} {s : Fin 3} (ha : a.okop) (h0 : opm a.op ≠ 0) (h : hasP a e = true) : hasP { a with op := bits .or .u8 a.op ((1 <<< s.val : Nat) : Int) } e = true := by
  have o := or_opm ha.1 ha.2 s
  rw [hasP_8 (d := { a with op := bits .or .u8 a.op ((1 <<< s.val : Nat) : Int) }) ⟨o.2.1, o.2.2⟩]
  rw [hasP_8 ha] at h
  dsimp only
  rw [o.1]
  obtain ⟨r, hr⟩ := fin3 _ (ecmp_three e a.evr)
  rw [hr] at h ⊢
  exact (more8 ⟨opm a.op, opm_lt _⟩ ⟨opm a.op, opm_lt _⟩ r s h0).2 h
end Go.Proofs.YtinidiiachedbaaDoor
