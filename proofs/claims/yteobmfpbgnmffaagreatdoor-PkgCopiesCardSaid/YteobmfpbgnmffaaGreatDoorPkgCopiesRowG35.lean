/- SameEq -/
import Derived.Test.YteobmfpbgnmffaaGreatDoorPkgCopiesRowG19
import Derived.Test.YteobmfpbgnmffaaGreatDoorPkgCopiesRowG14
import Derived.Test.YteobmfpbgnmffaaGreatDoorPkgCopiesRowG08
set_option linter.unusedSimpArgs false
set_option linter.unusedVariables false
/- Walks: are two lists of dependencies, of texts, the same (slices.Equal, chandleryref10.Deps). -/



namespace Go.Proofs.YteobmfpbgnmffaaGreatDoor
open Go.RowKit Go.Shelf
set_option linter.unusedVariables false

theorem belowQ {B : Nat} {w W : World} {n : Nat} (h : Below B w W) : Below B w (W.drewN n) := ⟨h.os, h.tape, h.output, h.size, h.block⟩
def sameD (x y : Dp) : Bool := decide (x.name = y.name) && decide (x.op = y.op) && decide (x.evr.epoch = y.evr.epoch) && decide (x.evr.ver = y.evr.ver) && decide (x.evr.rel = y.evr.rel)
def sameDL : List Dp → List Dp → Bool
  | [], [] => true
  | a :: l, b :: r => sameD a b && sameDL l r
  | [], _ :: _ => false
  | _ :: _, [] => false
theorem sameD_bs (x y : Dp) : sameD x y = (decide ((bs x.name).toList = (bs y.name).toList) && decide (x.op = y.op) && decide (x.evr.epoch = y.evr.epoch) && decide ((bs x.evr.ver).toList = (bs y.evr.ver).toList) && decide ((bs x.evr.rel).toList = (bs y.evr.rel).toList)) := by
  unfold sameD
  rw [dec_bs x.name, dec_bs x.evr.ver, dec_bs x.evr.rel]
theorem sameD_self (x : Dp) : sameD x x = true := by simp [sameD]
theorem sameDL_self : ∀ l : List Dp, sameDL l l = true
  | [] => rfl
  | a :: l => by simp only [sameDL]; rw [sameD_self, sameDL_self l]; rfl
theorem sameDL_take {l r : List Dp} {k : Nat} (hl : l.length = r.length) (hk : k < l.length) : sameDL (l.take (k + 1)) (r.take (k + 1)) = (sameDL (l.take k) (r.take k) && sameD l[k] (r[k]'(by omega))) := by
  rw [take_snoc l k hk, take_snoc r k (by omega)]
  have hlen : (l.take k).length = (r.take k).length := by simp; omega
  generalize l.take k = a at *
  generalize r.take k = b at *
  induction a generalizing b with
  | nil => cases b with
    | nil => simp [sameDL]
    | cons y b => simp at hlen
  | cons x a ih => cases b with
    | nil => simp at hlen
    | cons y b => simp only [List.cons_append, sameDL, ih b (by simpa using hlen), Bool.and_assoc]
theorem sameDL_len : ∀ {l r : List Dp}, l.length ≠ r.length → sameDL l r = false
  | [], [], h => absurd rfl h
  | a :: l, b :: r, h => by simp only [sameDL]; rw [sameDL_len (by simpa using h)]; simp
  | [], _ :: _, _ => rfl
  | _ :: _, [], _ => rfl
theorem sameDL_no : ∀ {l r : List Dp} {k : Nat}, sameDL (l.take k) (r.take k) = false → sameDL l r = false
  | [], [], k, h => by simp [sameDL] at h
  | [], b :: r, k, h => rfl
  | a :: l, [], k, h => rfl
  | a :: l, b :: r, 0, h => by simp [sameDL] at h
  | a :: l, b :: r, k + 1, h => by
    simp only [List.take_succ_cons, sameDL, Bool.and_eq_false_iff] at h ⊢
    rcases h with h | h
    · exact .inl h
    · exact .inr (sameDL_no h)
set_option maxRecDepth 100000 in
set_option maxHeartbeats 16000000 in
theorem eqdeps_any (A B : Option Addr) (c d : Nat) (D E : List Dp) (w : World) (hD : D.length ≤ 1000000) (hE : E.length ≤ 1000000) (hu : Rd encD 5 w.heap.size A c D w) (hv : Rd encD 5 w.heap.size B d E w) :
    Calls Tryz.prog 77 #[.slice A D.length c, .slice B E.length d] w fun e w' => e = .returned (.bool (sameDL D E)) ∧ Below w.heap.size w w' := by
  by_cases hl : D.length = E.length
  · obtain ⟨n, hn⟩ : ∃ n, n = D.length := ⟨_, rfl⟩
    have HN := Lib.hid hn
    have HE := Lib.hid (hn.trans hl)
    rw [← hl, ← hn]
    have hN : n ≤ 1000000 := by omega
    have HC := Lib.hid hu
    have HD := Lib.hid hv
    clear hl hu hv hD hE hn
    go_enter Tryz.func77, Tryz.ntmps77
    go_wp2_with fail
    go_loopw [13] (fun i wr => ∃ k : Nat, k ≤ n ∧ i = .int .i64 (k : Int) ∧ RowKit.Hid (sameDL (D.take k) (E.take k) = true) ∧ Below w.heap.size w wr) (fun i _ => n - (intOf i).toNat)
    case atStart => exact ⟨0, by omega, rfl, Lib.hid rfl, Below.refl _ _⟩
    case round =>
      obtain ⟨k, hk, rfl, hS, hB⟩ := hrel
      rename World => wr
      have HB := Lib.hid hB
      by_cases hlt : k < n
      · have l1 : k < D.length := by have := HN.out; omega
        have l2 : k < E.length := by have := HE.out; omega
        obtain ⟨b1, o1, rfl, hb1, c0, c1, c2, c3, c4⟩ := (HC.out.below hB).dep_at l1
        obtain ⟨b2, o2, rfl, hb2, d0, d1, d2, d3, d4⟩ := (HD.out.below hB).dep_at l2
        have HT := Lib.hid (sameDL_take (l := D) (r := E) (by rw [← HN.out]; exact HE.out) l1)
        rw [hS.out, Bool.true_and, sameD_bs] at HT
        generalize D[k] = x at *
        generalize E[k] = y at *
        clear l1 l2 hB
        have i0 : (0 : Int) ≤ (k : Int) := by omega
        have i1 : (k : Int) < (n : Int) := by omega
        generalize bs x.name = n1 at *
        generalize bs y.name = n2 at *
        generalize x.op = p1 at *
        generalize y.op = p2 at *
        generalize x.evr.epoch = e1 at *
        generalize y.evr.epoch = e2 at *
        generalize bs x.evr.ver = v1 at *
        generalize bs y.evr.ver = v2 at *
        generalize bs x.evr.rel = r1 at *
        generalize bs y.evr.rel = r2 at *
        have tl : ∀ {x y : ByteArray}, x = y ∨ ¬ x.toList = y.toList := fun {x y} => by by_cases h : x.toList = y.toList; exact .inl (toList_inj h); exact .inr h
        rcases (tl : n1 = n2 ∨ _) with rfl | q
        by_cases q : p1 = p2
        subst q
        by_cases q : e1 = e2
        subst q
        rcases (tl : v1 = v2 ∨ _) with rfl | q
        rcases (tl : r1 = r2 ∨ _) with rfl | q
        · have HS := Lib.hid (show sameDL (D.take (k + 1)) (E.take (k + 1)) = true by rw [HT.out]; simp)
          clear HT tl
          go_wp2_with fail
          go_quiet (fail)
          go_wp2_with fail
          go_roundw
          case rel => exact ⟨k + 1, by omega, by go_num, HS, belowQ HB.out⟩
          case measure => simp [intOf]; omega
        all_goals
          have HS := Lib.hid (sameDL_no (l := D) (r := E) (k := k + 1) (by rw [HT.out]; simp [q]))
          clear HT tl
          go_wp2_with fail
          go_quiet (fail)
          go_wp2_with fail
          go_ret
          exact ⟨ret_bool (by rw [HS.out]), belowQ HB.out⟩
      · obtain rfl : k = n := by omega
        have hlt2 : ¬ (k : Int) < (k : Int) := by omega
        have h3 := hS.out
        rw [List.take_of_length_le (by have := HN.out; omega), List.take_of_length_le (by have := HE.out; omega)] at h3
        have H3 := Lib.hid h3
        clear hS h3
        go_wp2_with fail
        go_ret
        exact ⟨ret_bool (by rw [H3.out]), HB.out⟩
  · have hne : ((D.length : Int) != (E.length : Int)) = true := by simp only [bne_iff_ne]; omega
    have hx : RowKit.Hid (sameDL D E = false) := Lib.hid (sameDL_len hl)
    rw [hx.out]
    clear hl hu hv hx
    generalize D.length = n at *
    generalize E.length = m at *
    go_enter Tryz.func77, Tryz.ntmps77
    go_wp2_with fail
    go_ret
    exact ⟨rfl, Below.refl _ _⟩
set_option maxRecDepth 100000 in
set_option maxHeartbeats 16000000 in
theorem r10same_deps (A B : Option Addr) (c d : Nat) (D E : List Dp) (w : World) (hD : D.length ≤ 1000000) (hE : E.length ≤ 1000000) (hu : Rd encD 5 w.heap.size A c D w) (hv : Rd encD 5 w.heap.size B d E w) :
    Calls Tryz.prog 79 #[.slice A D.length c, .slice B E.length d] w fun e w' => e = .returned (.bool (sameDL D E)) ∧ Below w.heap.size w w' := by
  by_cases hl : D.length = E.length
  · obtain ⟨n, hn⟩ : ∃ n, n = D.length := ⟨_, rfl⟩
    have HN := Lib.hid hn
    have HE := Lib.hid (hn.trans hl)
    rw [← hl, ← hn]
    have hN : n ≤ 1000000 := by omega
    have HC := Lib.hid hu
    have HD := Lib.hid hv
    clear hl hu hv hD hE hn
    go_enter Tryz.func79, Tryz.ntmps79
    go_wp2_with fail
    go_loopw [5] (fun i wr => ∃ k : Nat, k ≤ n ∧ i = .int .i64 (k : Int) ∧ RowKit.Hid (sameDL (D.take k) (E.take k) = true) ∧ Below w.heap.size w wr) (fun i _ => n - (intOf i).toNat)
    case atStart => exact ⟨0, by omega, rfl, Lib.hid rfl, Below.refl _ _⟩
    case round =>
      obtain ⟨k, hk, rfl, hS, hB⟩ := hrel
      rename World => wr
      have HB := Lib.hid hB
      by_cases hlt : k < n
      · have l1 : k < D.length := by have := HN.out; omega
        have l2 : k < E.length := by have := HE.out; omega
        obtain ⟨b1, o1, rfl, hb1, c0, c1, c2, c3, c4⟩ := (HC.out.below hB).dep_at l1
        obtain ⟨b2, o2, rfl, hb2, d0, d1, d2, d3, d4⟩ := (HD.out.below hB).dep_at l2
        have HT := Lib.hid (sameDL_take (l := D) (r := E) (by rw [← HN.out]; exact HE.out) l1)
        rw [hS.out, Bool.true_and, sameD_bs] at HT
        generalize D[k] = x at *
        generalize E[k] = y at *
        clear l1 l2 hB
        have i0 : (0 : Int) ≤ (k : Int) := by omega
        have i1 : (k : Int) < (n : Int) := by omega
        generalize bs x.name = n1 at *
        generalize bs y.name = n2 at *
        generalize x.op = p1 at *
        generalize y.op = p2 at *
        generalize x.evr.epoch = e1 at *
        generalize y.evr.epoch = e2 at *
        generalize bs x.evr.ver = v1 at *
        generalize bs y.evr.ver = v2 at *
        generalize bs x.evr.rel = r1 at *
        generalize bs y.evr.rel = r2 at *
        have tl : ∀ {x y : ByteArray}, x = y ∨ ¬ x.toList = y.toList := fun {x y} => by by_cases h : x.toList = y.toList; exact .inl (toList_inj h); exact .inr h
        rcases (tl : n1 = n2 ∨ _) with rfl | q
        by_cases q : p1 = p2
        subst q
        by_cases q : e1 = e2
        subst q
        rcases (tl : v1 = v2 ∨ _) with rfl | q
        rcases (tl : r1 = r2 ∨ _) with rfl | q
        · have HS := Lib.hid (show sameDL (D.take (k + 1)) (E.take (k + 1)) = true by rw [HT.out]; simp)
          clear HT tl
          go_wp2_with fail
          go_quiet (fail)
          go_wp2_with fail
          go_roundw
          case rel => exact ⟨k + 1, by omega, by go_num, HS, belowQ HB.out⟩
          case measure => simp [intOf]; omega
        all_goals
          have HS := Lib.hid (sameDL_no (l := D) (r := E) (k := k + 1) (by rw [HT.out]; simp [q]))
          clear HT tl
          go_wp2_with fail
          go_quiet (fail)
          go_wp2_with fail
          go_ret
          exact ⟨ret_bool (by rw [HS.out]), belowQ HB.out⟩
      · obtain rfl : k = n := by omega
        have hlt2 : ¬ (k : Int) < (k : Int) := by omega
        have h3 := hS.out
        rw [List.take_of_length_le (by have := HN.out; omega), List.take_of_length_le (by have := HE.out; omega)] at h3
        have H3 := Lib.hid h3
        clear hS h3
        go_wp2_with fail
        go_ret
        exact ⟨ret_bool (by rw [H3.out]), HB.out⟩
  · have hne : ((D.length : Int) != (E.length : Int)) = true := by simp only [bne_iff_ne]; omega
    have hx : RowKit.Hid (sameDL D E = false) := Lib.hid (sameDL_len hl)
    rw [hx.out]
    clear hl hu hv hx
    generalize D.length = n at *
    generalize E.length = m at *
    go_enter Tryz.func79, Tryz.ntmps79
    go_wp2_with fail
    go_ret
    exact ⟨rfl, Below.refl _ _⟩
set_option maxRecDepth 100000 in
set_option maxHeartbeats 4000000 in
theorem eqtexts_any (A B : Option Addr) (c d : Nat) (D E : List ByteArray) (w : World) (hD : D.length ≤ 1000000000) (hE : E.length ≤ 1000000000) (hu : TR w A D) (hv : TR w B E) :
    Calls Tryz.prog 78 #[.slice A D.length c, .slice B E.length d] w fun e w' => e = .returned (.bool (decide (D = E))) ∧ Below w.heap.size w w' := by
  by_cases hl : D.length = E.length
  · obtain ⟨n, hn⟩ : ∃ n, n = D.length := ⟨_, rfl⟩
    have HN := Lib.hid hn
    have HE := Lib.hid (hn.trans hl)
    rw [← hl, ← hn]
    have hN : n ≤ 1000000000 := by omega
    have HC := Lib.hid hu
    have HD := Lib.hid hv
    clear hl hu hv hD hE hn
    go_enter Tryz.func78, Tryz.ntmps78
    go_wp2
    go_loopw [13] (fun i wr => ∃ k : Nat, k ≤ n ∧ i = .int .i64 (k : Int) ∧ RowKit.Hid (∀ j, j < k → D[j]? = E[j]?) ∧ Below w.heap.size w wr) (fun i _ => n - (intOf i).toNat)
    case atStart => exact ⟨0, by omega, rfl, Lib.hid (by intro j hj; omega), Below.refl _ _⟩
    case round =>
      obtain ⟨k, hk, rfl, hS, hB⟩ := hrel
      rename World => wr
      have HB := Lib.hid hB
      by_cases hlt : k < n
      · have l1 : k < D.length := by have := HN.out; omega
        have l2 : k < E.length := by have := HE.out; omega
        obtain ⟨g, o, rfl, hg, p1⟩ := (HC.out.below hB) k l1
        obtain ⟨f, q, rfl, hf, p2⟩ := (HD.out.below hB) k l2
        have e1 : D[k]? = some D[k] := List.getElem?_eq_getElem l1
        have e2 : E[k]? = some E[k] := List.getElem?_eq_getElem l2
        generalize D[k] = x at *
        generalize E[k] = y at *
        have E1 := Lib.hid e1
        have E2 := Lib.hid e2
        clear e1 e2 l1 l2 hB
        have hlt2 : (k : Int) < (n : Int) := by omega
        by_cases hxy : x = y
        · subst hxy
          go_wp2
          go_region
          go_wp2
          go_roundw
          case rel =>
            refine ⟨k + 1, by omega, by go_num, Lib.hid ?_, HB.out.drew⟩
            intro j hj
            by_cases hjk : j = k
            · subst hjk; rw [E1.out, E2.out]
            · exact hS.out j (by omega)
          case measure => simp [intOf]; omega
        · have hx2 : (x.toList == y.toList) = false := beq_eq_false_iff_ne.2 fun h => hxy (toList_inj h)
          have hx3 : ¬ x.toList = y.toList := fun h => hxy (toList_inj h)
          go_wp2
          go_region
          go_wp2
          go_ret
          refine ⟨ret_bool ?_, HB.out.drew⟩
          symm
          refine decide_eq_false ?_
          intro e
          have h := E1.out
          rw [e, E2.out] at h
          exact hxy (Option.some.inj h).symm
      · have hlt2 : ¬ (k : Int) < (n : Int) := by omega
        go_wp2
        go_ret
        refine ⟨ret_bool ?_, HB.out⟩
        symm
        refine decide_eq_true ?_
        refine List.ext_getElem? ?_
        intro i
        by_cases hi : i < k
        · exact hS.out i hi
        · rw [List.getElem?_eq_none (by have := HN.out; omega), List.getElem?_eq_none (by have := HE.out; omega)]
  · have hne : ((D.length : Int) == (E.length : Int)) = false := by simp only [beq_eq_false_iff_ne]; omega
    have hne2 : ¬ (D.length : Int) = (E.length : Int) := by omega
    have hx : RowKit.Hid (decide (D = E) = false) := Lib.hid (decide_eq_false fun e => hl (by rw [e]))
    rw [hx.out]
    clear hl hu hv hx
    generalize D.length = n at *
    generalize E.length = m at *
    go_enter Tryz.func78, Tryz.ntmps78
    go_wp2
    go_ret
    exact ⟨rfl, Below.refl _ _⟩
end Go.Proofs.YteobmfpbgnmffaaGreatDoor
