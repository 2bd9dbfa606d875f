/- VmComp, VmRefC -/
import Derived.Test.YtcpjignlhlcnpaaDoorPkgNamesRowG05
import Derived.RegionTactic
import Derived.ChangeAlike
import Derived.Sort.Walk0
set_option linter.unusedSimpArgs false
set_option linter.unusedVariables false
namespace Go.Proofs.YtcpjignlhlcnpaaDoor
section
/- Walks: how two versions compare. -/


open Go.RowKit Go.Shelf

def fin : Prt := (2, [])
/-- two rows of parts compared, part by part -/
def cmpV : List Prt → List Prt → Int
  | a :: l, b :: m => if cmpP a b ≠ 0 then cmpP a b else cmpV l m
  | _, _ => 0
/-- HOW TWO VERSIONS COMPARE -/
def comp (a b : Bytes) : Int := cmpV (pts a ++ [fin]) (pts b ++ [fin])
theorem cmpV_at {l m : List Prt} {k : Nat} (hl : k < l.length) (hm : k < m.length) : cmpV (l.drop k) (m.drop k) = if cmpP l[k] m[k] ≠ 0 then cmpP l[k] m[k] else cmpV (l.drop (k + 1)) (m.drop (k + 1)) := by
  rw [List.drop_eq_getElem_cons hl, List.drop_eq_getElem_cons hm]; rfl
theorem cmpV_end {l m : List Prt} {k : Nat} (h : l.length ≤ k ∨ m.length ≤ k) : cmpV (l.drop k) (m.drop k) = 0 := by
  rcases h with h | h
  · rw [List.drop_of_length_le h]; rfl
  · rw [List.drop_of_length_le h]; cases l.drop k <;> rfl
set_option maxRecDepth 100000 in
set_option maxHeartbeats 2000000 in
theorem comp_any (a b : ByteArray) (w : World) (ha : a.size ≤ 1000000) (hb : b.size ≤ 1000000) : Calls Tryd.prog 66 #[.string a, .string b] w fun e w' => e = .returned (.int .i64 (comp a.toList b.toList)) ∧ Below w.heap.size w w' := by
  obtain ⟨i0, hi, hz0, hz1, hz2⟩ := info_parts infoPart
  have na := pts_len a.toList
  have nb := pts_len b.toList
  rw [size_toList] at na nb
  have hcomp := Lib.hid (show comp a.toList b.toList = cmpV (pts a.toList ++ [fin]) (pts b.toList ++ [fin]) from rfl)
  have PB := Lib.hid (fun W => parts_any b W (by omega))
  have PC := Lib.hid (fun p q W => compare_any p q W)
  go_enter Tryd.func66, Tryd.ntmps66
  go_wp2_with fail
  go_at_call 69
  refine (parts_any a w (by omega)).mono ?_
  rintro e w1 ⟨v, rfl, hv, hb1⟩
  generalize pts a.toList = la at *
  generalize pts b.toList = lb at *
  have hs1 := hb1.size
  go_wp2_with (at_builtin; refine wpList_append_own _ rfl _ _ 95 rfl w.heap.size 98 i0 (.agg #[.int .u8 0, .string ByteArray.empty]) 2 24 Tryd.underlying95 hi hz0 hz1 hz2 rfl (by decide) _ _ _ rfl (World.ownsRow.alloc hv _) ⟨w1.heap.size, 0, none⟩ 1 1 [.int .u8 2, .string ⟨#[]⟩] rfl rfl (cell_two_new _ _ _ _) (by simp [Value.oneCell']) (by simp only [maxLen]; omega) (by omega) (by simp; omega) ?_; intro va w2 hown hgrow _)
  have hB2 : Below w.heap.size w w2 := (hb1.alloc hs1 _).grown hgrow (by simp; omega) (fun k e => (World.ownsRow.lt hv k e).1)
  have hA : Own encP 2 w.heap.size 98 va (la ++ [fin]) w2 := Own.snoc hown
  obtain ⟨A, ca, rfl, hrdA⟩ := hA.rd (fun _ => rfl)
  clear hown hgrow hA hv hb1 hs1
  go_at_call 69
  refine (PB.out w2).mono ?_
  rintro e w3 ⟨v3, rfl, hv3, hb3⟩
  have hs3 := hb3.size
  have hs2 := hB2.size
  go_wp2_with (at_builtin; refine wpList_append_own _ rfl _ _ 95 rfl w2.heap.size 98 i0 (.agg #[.int .u8 0, .string ByteArray.empty]) 2 24 Tryd.underlying95 hi hz0 hz1 hz2 rfl (by decide) _ _ _ rfl (World.ownsRow.alloc hv3 _) ⟨w3.heap.size, 0, none⟩ 1 1 [.int .u8 2, .string ⟨#[]⟩] rfl rfl (cell_two_new _ _ _ _) (by simp [Value.oneCell']) (by simp only [maxLen]; omega) (by omega) (by simp; omega) ?_; intro vb w4 hown hgrow _; have hB4 : Below w2.heap.size w2 w4 := (hb3.alloc hs3 _).grown hgrow (by simp; omega) (fun k e => (World.ownsRow.lt hv3 k e).1); obtain ⟨Bm, cb, rfl, hrdB⟩ := Own.rd (l := lb ++ [fin]) (Own.snoc (x := fin) hown) (fun _ => rfl); clear hown hgrow hv3 hb3 hs3)
  all_goals
    have hrA := hrdA.withB hB4
    clear hrdA
    have hBw : Below w.heap.size w w4 := hB2.trans (hB4.mono hs2)
    have lA : (la ++ [fin]).length = la.length + 1 := by simp
    have lB : (lb ++ [fin]).length = lb.length + 1 := by simp
    clear hB2 hB4 PB
    generalize la ++ [fin] = L at *
    generalize lb ++ [fin] = M at *
    go_loopw [24] (fun i wr => ∃ k : Nat, k ≤ la.length + 1 ∧ k ≤ lb.length + 1 ∧ i = .int .i64 (k : Int) ∧ RowKit.Hid (cmpV L M = cmpV (L.drop k) (M.drop k)) ∧ Below w4.heap.size w4 wr) (fun i _ => la.length + 1 - (intOf i).toNat)
    case atStart => exact ⟨0, by omega, by omega, rfl, Lib.hid rfl, Below.refl _ _⟩
    case round =>
      obtain ⟨k, hk1, hk2, rfl, hc, hB⟩ := hrel
      by_cases hlt : k < la.length + 1 ∧ k < lb.length + 1
      · obtain ⟨h1, h2⟩ := hlt
        have kA : k < L.length := by omega
        have kB : k < M.length := by omega
        have H := Lib.hid (cmpV_at kA kB)
        obtain ⟨b1, o1, rfl, hb1, x0, x1⟩ := (hrA.below hB).at2 (f := fun p : Prt => .int .u8 p.1) (g := fun p : Prt => .string (bs p.2)) (fun _ => rfl) kA
        obtain ⟨b2, o2, rfl, hb2, y0, y1⟩ := (hrdB.below hB).at2 (f := fun p : Prt => .int .u8 p.1) (g := fun p : Prt => .string (bs p.2)) (fun _ => rfl) kB

        generalize L[k] = p at *
        generalize M[k] = q at *
        have x0' : World.cell? { wr with drawn := wr.drawn + 1 } ⟨b1, o1 + k * 2, none⟩ = some (.int .u8 p.1) := x0
        have x1' : World.cell? { wr with drawn := wr.drawn + 1 } ⟨b1, o1 + k * 2 + 1, none⟩ = some (.string (bs p.2)) := x1
        have y0' : World.cell? { wr with drawn := wr.drawn + 1 } ⟨b2, o2 + k * 2, none⟩ = some (.int .u8 q.1) := y0
        have y1' : World.cell? { wr with drawn := wr.drawn + 1 } ⟨b2, o2 + k * 2 + 1, none⟩ = some (.string (bs q.2)) := y1
        have i0 : (0 : Int) ≤ (k : Int) := by omega
        have i1 : (k : Int) < (la.length : Int) + 1 := by omega
        have i2 : (k : Int) < (lb.length : Int) + 1 := by omega
        go_wp2_with fail
        refine wp_region_still_tail 8 (by kernel_rfl) (by kernel_rfl) ?_
        simp only [List.take_succ_cons, List.take_zero, List.drop_succ_cons, List.drop_zero]
        repeat still_step
        refine wpStill_nil ?_
        change wpList _ _ _ _ _ wr.drew
        have hD : Below w4.heap.size w4 wr.drew := hB.drew
        clear x0 x1 y0 y1 x0' x1' y0' y1' hB
        generalize wr.drew = w5 at *
        go_wp2_with fail
        go_at_call 70
        refine (PC.out p q w5).mono ?_
        rintro e w6 ⟨rfl, hb6⟩
        have hB6 : Below w4.heap.size w4 w6 := hD.trans (hb6.mono hD.size)
        by_cases hz : cmpP p q = 0
        · have H2 := Lib.hid (show cmpV L M = cmpV (L.drop (k + 1)) (M.drop (k + 1)) by rw [hc, H.out, hz]; rfl)
          clear H
          go_wp2
          go_roundw
          case rel => exact ⟨k + 1, by omega, by omega, by go_num, H2, hB6⟩
          case measure => simp [intOf]; omega
        · have H2 := Lib.hid (show cmpP p q = comp a.toList b.toList by rw [hcomp.out, hc, H.out, if_pos hz])
          clear H
          go_wp2
          go_ret
          exact ⟨ret_int H2.out, hBw.trans (hB6.mono hBw.size)⟩
      · have H2 := Lib.hid (show (0 : Int) = comp a.toList b.toList by rw [hcomp.out, hc, cmpV_end (by omega)])
        have hkk : k = la.length + 1 ∨ k = lb.length + 1 := by omega
        go_wp2
        go_ret
        exact ⟨ret_int H2.out, hBw.trans (hB.mono hBw.size)⟩
end
section
/- Walks: how the document compares two versions: the same as the program does. -/



open Go.RowKit Go.Shelf

theorem bl_total : ∀ a b : Bytes, Op.bytesLess a b = false → Op.bytesLess b a = false → a = b
  | [], [], _, _ => rfl
  | [], _ :: _, h, _ => by simp [Op.bytesLess] at h
  | _ :: _, [], _, h => by simp [Op.bytesLess] at h
  | x :: a, y :: b, h1, h2 => by
    simp only [Op.bytesLess, Bool.or_eq_false_iff, decide_eq_false_iff_not, Bool.and_eq_false_iff, beq_eq_false_iff_ne, ne_eq] at h1 h2
    have e : x = y := by
      apply UInt8.toNat_inj.1
      have q1 := h1.1; have q2 := h2.1
      rw [UInt8.lt_iff_toNat_lt] at q1 q2
      omega
    subst e
    have r1 : Op.bytesLess a b = false := by rcases h1.2 with h | h; · exact absurd rfl h
                                             · simpa using h
    have r2 : Op.bytesLess b a = false := by rcases h2.2 with h | h; · exact absurd rfl h
                                             · simpa using h
    rw [bl_total a b r1 r2]
theorem cmpI_cases (a b : Int) : (cmpI a b = -1 ∧ a < b) ∨ (cmpI a b = 0 ∧ a = b) ∨ (cmpI a b = 1 ∧ b < a) := by
  unfold cmpI
  by_cases h1 : a < b
  · left; simp [h1]
  by_cases h2 : b < a
  · right; right; simp [h1, h2]
  · right; left; simp [h1, h2]; omega
theorem cmpL_cases (a b : Bytes) : (cmpL a b = -1 ∧ Op.bytesLess a b = true) ∨ (cmpL a b = 0 ∧ a = b) ∨ (cmpL a b = 1 ∧ Op.bytesLess b a = true) := by
  unfold cmpL
  cases h1 : Op.bytesLess a b with
  | true => left; simp
  | false =>
    by_cases h2 : a = b
    · right; left; simp [h2]
    · right; right
      refine ⟨by simp [h2], ?_⟩
      cases h3 : Op.bytesLess b a with
      | true => rfl
      | false => exact absurd (bl_total a b h1 h3) h2
/- the order of parts -/
theorem cmpP_or (a b : Prt) : cmpP a b = or3 (cmpI a.1 b.1) (if a.1 = 5 ∧ b.1 = 5 then cmpI a.2.length b.2.length else 0) (cmpL a.2 b.2) := by
  by_cases h : a.1 = 5 ∧ b.1 = 5
  · rw [cmpP_both h.1 h.2, if_pos h]
  · rw [cmpP_not h, if_neg h]
theorem or3_cases {a b c : Int} (ha : a = -1 ∨ a = 0 ∨ a = 1) (hb : b = -1 ∨ b = 0 ∨ b = 1) (hc : c = -1 ∨ c = 0 ∨ c = 1) : or3 a b c = -1 ∨ or3 a b c = 0 ∨ or3 a b c = 1 := by
  unfold or3
  by_cases h1 : a = 0 <;> by_cases h2 : b = 0 <;> simp_all
theorem cmpI_three (a b : Int) : cmpI a b = -1 ∨ cmpI a b = 0 ∨ cmpI a b = 1 := by rcases cmpI_cases a b with ⟨e, _⟩ | ⟨e, _⟩ | ⟨e, _⟩ <;> simp [e]
theorem cmpL_three (a b : Bytes) : cmpL a b = -1 ∨ cmpL a b = 0 ∨ cmpL a b = 1 := by rcases cmpL_cases a b with ⟨e, _⟩ | ⟨e, _⟩ | ⟨e, _⟩ <;> simp [e]
theorem cmpP_cases (a b : Prt) : cmpP a b = -1 ∨ cmpP a b = 0 ∨ cmpP a b = 1 := by
  rw [cmpP_or]
  refine or3_cases (cmpI_three _ _) ?_ (cmpL_three _ _)
  by_cases h : a.1 = 5 ∧ b.1 = 5
  · rw [if_pos h]; exact cmpI_three _ _
  · rw [if_neg h]; simp
end
end Go.Proofs.YtcpjignlhlcnpaaDoor
