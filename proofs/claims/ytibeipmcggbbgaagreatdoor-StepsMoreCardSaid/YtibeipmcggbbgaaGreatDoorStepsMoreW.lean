/- Walk: StepsMore; and what it wants beside the texts that it imports. -/
import Derived.Test.YtibeipmcggbbgaaGreatDoorStepsThereRowG40
import Derived.Test.YtibeipmcggbbgaaGreatDoorStepsThereRowG41
import Derived.Test.YtibeipmcggbbgaaGreatDoorStepsThereRowG44
import Derived.Test.YtibeipmcggbbgaaGreatDoorStepsThereRowG45
import Derived.Test.YtibeipmcggbbgaaGreatDoorStepsThereRowG46
import Derived.Test.YtibeipmcggbbgaaGreatDoorStepsThereRowG38
import Derived.Test.YtibeipmcggbbgaaGreatDoorStepsThereRowG39
import Derived.Test.YtibeipmcggbbgaaGreatDoorStepsThereRowG05
import Derived.Test.YtibeipmcggbbgaaGreatDoorStepsThereRowG36
set_option linter.unusedSimpArgs false
set_option linter.unusedVariables false
open List (getElem?_toArray getElem?_cons_zero getElem?_cons_succ setIfInBounds_toArray set_cons_zero set_cons_succ take_succ_cons take_zero)
namespace Go.Proofs.YtibeipmcggbbgaaGreatDoor
section
open Go.RowKit
theorem flatMap_len {α β : Type} (enc : α → List β) (size : Nat) (he : ∀ x, (enc x).length = size) (l : List α) : (l.flatMap enc).length = l.length * size := by
  induction l with
  | nil => simp
  | cons x l ih => simp only [List.flatMap_cons, List.length_append, he, ih, List.length_cons, Nat.add_mul]; omega
end
section
open Go.ChangeShapes Go.WideShapes Go.ChangeAt Go.RowKit
variable {H : Type} {enc : TypeId × Value → H} {P : Program} {W : World} {held : Bool} {t e : TypeId} {d : DataW H} {p : List MemPlace}
theorem arg_int {r : Reach} {b0 : Nat} {v : Value} {sp : Nat → Bool} {k : IntKind} (ht : P.underlying t = some (.int k)) (hval : Value.okWide P W r b0 t v) (h : DataW.Trod enc P W 0 sp held t v d p) :
    ∃ n : Int, v = .int k n ∧ (Lit.int k n).wf = true := by
  obtain ⟨n, h1, _, _, h4⟩ := open_int ht hval h
  exact ⟨n, h1, h4⟩
end
section
open Go.RowKit Go.Shelf
variable {N I0 : Nat} {S : List Int} {L : List Pr}
theorem stepsV_congr {S' : List Int} (h : ∀ z, z ∈ S ↔ z ∈ S') : stepsV L I0 S = stepsV L I0 S' := by
  have h1 : badS L.length S = badS L.length S' := by
    unfold badS
    rw [Bool.eq_iff_iff, List.any_eq_true, List.any_eq_true]
    exact ⟨fun ⟨z, hz, e⟩ => ⟨z, (h z).1 hz, e⟩, fun ⟨z, hz, e⟩ => ⟨z, (h z).2 hz, e⟩⟩
  have h2 : inbOf L.length S = inbOf L.length S' := by
    unfold inbOf
    refine List.map_congr_left fun n _ => ?_
    rw [← contains_inS, ← contains_inS, Bool.eq_iff_iff, List.contains_iff_mem, List.contains_iff_mem]
    exact h _
  unfold stepsV
  rw [h1, h2]
/-- the filtered list's element at a place -/
theorem filter_at {α : Type} (p : α → Bool) : ∀ (M : List α) (i : Nat) (h : i < M.length), p M[i] = true → (M.filter p)[((M.take i).filter p).length]? = some M[i]
  | [], i, h, _ => absurd h (Nat.not_lt_zero _)
  | x :: M, 0, h, hp => by
    have hp' : p x = true := hp
    simp [List.filter_cons, hp']
  | x :: M, i + 1, h, hp => by
    have ih := filter_at p M i (by simpa using h) (by simpa using hp)
    rw [List.take_succ_cons, List.filter_cons, List.filter_cons]
    cases hx : p x
    · simpa using ih
    · simpa using ih
theorem bad_more {more : Nat} (hm : more < N) : badS N ((more : Int) :: S.reverse) = badS N S := by
  unfold badS
  rw [List.any_cons, List.any_reverse]
  rw [show (decide ((more : Int) < 0) || decide ((N : Int) ≤ (more : Int))) = false by rw [Bool.or_eq_false_iff]; exact ⟨decide_eq_false (by omega), decide_eq_false (by omega)⟩, Bool.false_or]
theorem inS_more {more n : Nat} : St.inS ((more : Int) :: S.reverse) n = (decide (more = n) || St.inS S n) := by
  unfold St.inS
  rw [List.any_cons, List.any_reverse]
  congr 1
  rw [Bool.eq_iff_iff]
  simp only [beq_iff_eq, decide_eq_true_eq]
  exact Int.ofNat_inj
theorem more_same {more : Nat} (h : S.contains (more : Int) = true) : stepsV L I0 ((more : Int) :: S.reverse) = stepsV L I0 S := stepsV_congr fun z => by
  rw [List.mem_cons, List.mem_reverse]
  exact ⟨fun hz => hz.elim (fun e => by rw [e]; exact List.contains_iff_mem.1 h) id, .inr⟩
theorem more_numbers (hI : I0 ≤ L.length) (hb : badS L.length S = false) {more : Nat} (h1 : I0 ≤ more) (h2 : more < L.length) (h : S.contains (more : Int) = false) :
    ((stepsV L I0 ((more : Int) :: S.reverse)).filter fun x => !decide (x.2 = (more : Int))).map (fun x => x.2) = (stepsV L I0 S).map (fun x => x.2) ∧ (stepsV L I0 ((more : Int) :: S.reverse)).length = (stepsV L I0 S).length + 1 := by
  have hn : St.inS S more = false := by rw [← contains_inS]; exact h
  have c1 : ∀ n, n ≠ more → St.chg I0 ((more : Int) :: S.reverse) n = St.chg I0 S n := fun n hne => by
    unfold St.chg
    rw [inS_more, decide_eq_false (fun e => hne e.symm), Bool.false_or]
  have c2 : St.chg I0 ((more : Int) :: S.reverse) more = true := by
    unfold St.chg
    rw [inS_more, decide_eq_true rfl, decide_eq_false (Nat.not_lt.2 h1)]; rfl
  have c3 : St.chg I0 S more = false := by
    unfold St.chg
    rw [hn, decide_eq_false (Nat.not_lt.2 h1)]; rfl
  have e1 : ∀ (T : List Int), St.chgs I0 T 0 L.length = St.chgs I0 T 0 more ++ ((if St.chg I0 T more then [more] else []) ++ St.chgs I0 T (more + 1) L.length) := fun T => by
    rw [← chgs_head h2, ← chgs_split (Nat.zero_le _) (Nat.le_of_lt h2)]
  have l1 : St.chgs I0 ((more : Int) :: S.reverse) 0 more = St.chgs I0 S 0 more := List.filter_congr fun x hx => c1 x (by have := (List.mem_range'_1.1 hx).2; omega)
  have l2 : St.chgs I0 ((more : Int) :: S.reverse) (more + 1) L.length = St.chgs I0 S (more + 1) L.length := List.filter_congr fun x hx => c1 x (by have := (List.mem_range'_1.1 hx).1; omega)
  have f1 : ∀ l : List Nat, (∀ x ∈ l, x ≠ more) → (l.filter fun k : Nat => !decide ((k : Int) = (more : Int))) = l := fun l hl => List.filter_eq_self.2 fun x hx => by
    have := hl x hx
    simp; omega
  rw [stepsV_eq hI ((bad_more h2).trans hb), stepsV_eq hI hb, List.filter_map, List.map_map, List.map_map, List.length_map, List.length_map, e1 ((more : Int) :: S.reverse), e1 S, c2, c3, l1, l2]
  refine ⟨?_, by simp; omega⟩
  have f2 : ((fun x : Int × Int => !decide (x.2 = (more : Int))) ∘ fun k : Nat => (knd L I0 ((more : Int) :: S.reverse) k, (k : Int))) = fun k : Nat => !decide ((k : Int) = (more : Int)) := rfl
  rw [f2, List.filter_append, List.filter_append, f1 _ fun x hx => by have := (St.mem_chgs.1 hx).1.2; omega, f1 (St.chgs I0 S (more + 1) L.length) fun x hx => by have := (St.mem_chgs.1 hx).1.1; omega]
  simp only [if_true, Bool.false_eq_true, if_false, List.filter_cons, decide_true, Bool.not_true, List.filter_nil, List.nil_append]
  rfl
end
open Go.RowKit Go.Shelf
set_option linter.unusedVariables false

/-- a row of one's own that is laid as a literal -/
theorem own_made {α : Type} {enc : α → List Value} {size : Nat} (he : ∀ x, (enc x).length = size) (l : List α) (W : World) (t : TypeId) (hl : l.length ≤ 1000) : Own enc size W.heap.size t (.slice (some ⟨W.heap.size, 0, none⟩) l.length l.length) l (W.alloc (.cells (l.flatMap enc).toArray t)) :=
  ⟨flatMap_len enc size he l, .inr ⟨W.heap.size, l.length, (l.flatMap enc).toArray, rfl, Nat.le_refl _, World.alloc_heap_new W _, Nat.le_refl _, by unfold maxLen; omega, by simpa using flatMap_len enc size he l, by show (l.flatMap enc).take (l.length * size) = _; rw [← flatMap_len enc size he l, List.take_length]⟩⟩
def mo24 (lb lo ln lc mb mo mn mc k ii : Nat) (pz : Int) (i : Nat) (v : Value) (W : World) : Prop := match i with
  | 0 => v = .int .i64 (k : Int)
  | 1 => v = .slice (some ⟨lb, lo, none⟩) ln lc
  | 2 => v = .int .i64 (ln : Int)
  | 3 => v = .bool false
  | 4 => v = .bool false
  | 5 => v = .slice (some ⟨lb, lo, none⟩) ln lc
  | 6 => v = .int .i64 (k : Int)
  | 7 => v = .pointer (some ⟨lb, lo + k * 2, none⟩)
  | 8 => v = .pointer (some ⟨lb, lo + k * 2 + 1, none⟩)
  | 9 => v = .int .i64 pz
  | 10 => v = .slice (some ⟨mb, mo, none⟩) mn mc
  | 11 => v = .int .i64 (ii : Int)
  | 12 => v = .pointer (some ⟨mb, mo + ii * 2, none⟩)
  | 13 => v = .pointer (some ⟨mb, mo + ii * 2 + 1, none⟩)
  | 14 => v = .int .i64 pz
  | 15 => v = .bool false
  | 16 => v = .bool false
  | _ => False
theorem mo24_mono (lb lo ln lc mb mo mn mc k ii : Nat) (pz : Int) : ∀ i v w w', mo24 lb lo ln lc mb mo mn mc k ii pz i v w → Below w.heap.size w w' → mo24 lb lo ln lc mb mo mn mc k ii pz i v w' := by
  intro i v w w' h _
  match i, h with
  | 0, h => exact h
  | 1, h => exact h
  | 2, h => exact h
  | 3, h => exact h
  | 4, h => exact h
  | 5, h => exact h
  | 6, h => exact h
  | 7, h => exact h
  | 8, h => exact h
  | 9, h => exact h
  | 10, h => exact h
  | 11, h => exact h
  | 12, h => exact h
  | 13, h => exact h
  | 14, h => exact h
  | 15, h => exact h
  | 16, h => exact h
  | (i + 17), h => exact h.elim
set_option maxRecDepth 100000 in
set_option maxHeartbeats 16000000 in
theorem stepsMore_row (w : World) (hI : PkIn w) (RA : Option Addr) (rc : Nat) (repos : List Rp) (hr : RpRow w.heap.size w RA rc repos) (hrq : ∀ r ∈ repos, ∀ p ∈ r.pk, PkQ w p) (IA : Option Addr) (ic : Nat) (ins : List Pk) (hi : PRow w.heap.size w IA ic ins) (hiq : ∀ p ∈ ins, PkQ w p) (A : Option Addr) (c : Nat) (S : List Int) (hS : Rd encI 1 w.heap.size A c S w ∧ (∀ z ∈ S, (Lit.int .i64 z).wf = true) ∧ S.length ≤ 1000000000000000) (more : Int) (hmr : (Lit.int .i64 more).wf = true) : Calls Tryz.prog 8 #[.slice RA repos.length rc, .slice IA ins.length ic, .slice A S.length c, .int .i64 more] w fun e w' => e = .returned (.bool true) ∧ Below w.heap.size w w' := by
  obtain ⟨hS, hSw, hSl⟩ := hS
  obtain ⟨m, hm9⟩ : ∃ m, S.length = m := ⟨_, rfl⟩
  have HM := Lib.hid hm9
  have hm1 : m ≤ 1000000000000000 := by omega
  obtain ⟨nr, hnr9⟩ : ∃ n, repos.length = n := ⟨_, rfl⟩
  obtain ⟨I0, hI09⟩ : ∃ n, ins.length = n := ⟨_, rfl⟩
  have WD := Lib.hid (show Calls Tryz.prog 18 #[.slice RA nr rc, .slice IA I0 ic, .int .i64 (m : Int)] w (WidePost repos ins (m : Int) w) from hnr9 ▸ hI09 ▸ wide30_any RA rc repos IA ic ins (m : Int) w hr hi)
  have AW := Lib.hid (fun W (hb : Below w.heap.size w W) => awake30 W (hI.below hb))
  have MD := Lib.hid (fun (k : Int) (hn : Narrow repos ins k) W (hb : Below w.heap.size w W) => show Calls Tryz.prog 20 #[.slice RA nr rc, .slice IA I0 ic] W (MadePost repos ins W) from hnr9 ▸ hI09 ▸ made_any (w0 := w) (hI.below hb) (hr.calls hb) (hi.calls hb) hn hrq hiq)
  have HS := Lib.hid hS
  have HSW := Lib.hid hSw
  have HI0 := Lib.hid hI09
  rw [hnr9, hI09, hm9]
  clear hI hr hrq hi hiq hS hSw hSl hm9 hnr9 hI09
  go_enter Tryz.func8, Tryz.ntmps8
  go_wp2_with fail
  go_at_call 18
  refine WD.out.mono ?_
  rintro e w1 ⟨r, rfl, hn, hb1⟩
  have B1 := Lib.hid hb1
  have AW1 := AW.out w1 hb1
  have HNR := Lib.hid hn
  clear hb1 hn WD
  cases r
  rotate_left
  · go_wp2_with fail
    go_at_call 19
    refine AW1.mono ?_
    rintro e w2 ⟨rfl, hb2⟩
    have B2 := Lib.hid (B1.out.trans (hb2.mono B1.out.size))
    clear hb2 B1 AW MD
    go_wp2_with fail
    go_ret
    exact ⟨rfl, B2.out⟩
  have NW := Lib.hid (HNR.out rfl)
  clear HNR
  have hm2 : m ≤ 200 := by have := NW.out.nk; omega
  go_wp2_with fail
  go_at_call 19
  refine AW1.mono ?_
  rintro e w2 ⟨rfl, hb2⟩
  have B2 := Lib.hid (B1.out.trans (hb2.mono B1.out.size))
  clear hb2 B1 AW AW1
  go_wp2_with fail
  go_at_call 20
  refine (MD.out _ NW.out w2 B2.out).mono ?_
  clear MD
  rintro e w3 ⟨h3, hb3⟩
  have BW3 := Lib.hid (B2.out.trans (hb3.mono B2.out.size))
  clear hb3 B2
  rcases h3 with ⟨P, L, rfl, hp3, hl1, hl2⟩ | ⟨er, her, rfl⟩
  rotate_left
  · have her2 : ¬ er = 0 := beq_eq_false_iff_ne.1 her
    go_wp2_with fail
    go_ret
    exact ⟨rfl, BW3.out⟩
  rw [HI0.out] at hp3 hl1
  have PL := Lib.hid hp3
  have HL1 := Lib.hid hl1
  have HL2 := Lib.hid hl2
  clear hp3 hl1 hl2
  obtain ⟨N, hN9⟩ : ∃ N, L.length = N := ⟨_, rfl⟩
  have HN := Lib.hid hN9
  have hN1 : N ≤ 100 := by have := HL2.out; omega
  have hIN : I0 ≤ N := by have := HL1.out; omega
  clear hN9 HL2
  have OF := Lib.hid (fun W (hb : Below w3.heap.size w3 W) (A' : Option Addr) (c' : Nat) (S' : List Int) (m' : Nat) (hm : S'.length = m') (hR : Rd encI 1 W.heap.size A' c' S' W) (hl : m' ≤ 1000000) => (show Calls Tryz.prog 22 #[.pointer (some ⟨P, 0, none⟩), .slice A' m' c'] W fun e w' => ∃ A2 c2, e = .returned (.tuple #[.slice A2 (stepsV L I0 S').length c2, .int .i64 (if badS N S' then 5 else 0)]) ∧ Rd encSt 2 w'.heap.size A2 c2 (stepsV L I0 S') w' ∧ Below W.heap.size W w' from by
    have h := stof_any (PL.out.then hb) A' c' S' hR (by omega) (by have := HN.out; omega) HL1.out
    rw [hm, HN.out] at h
    refine h.mono ?_
    rintro e w' ⟨v, rfl, ho, hb'⟩
    obtain ⟨A2, c2, rfl, hrd⟩ := ho.rd encSt_len
    exact ⟨A2, c2, rfl, hrd, hb'⟩))
  go_wp2_with fail
  go_at_call 22
  refine (OF.out w3 (Below.refl _ _) A c S m HM.out ((HS.out.below BW3.out).more BW3.out.size) (by omega)).mono ?_
  rintro e w4 ⟨LA, lc, rfl, hl4, hb4⟩
  have BW4 := Lib.hid (BW3.out.trans (hb4.mono BW3.out.size))
  have B34 := Lib.hid hb4
  have LR := Lib.hid hl4
  clear hb4 hl4
  obtain ⟨ln, hln⟩ : ∃ ln, (stepsV L I0 S).length = ln := ⟨_, rfl⟩
  have HLN := Lib.hid hln
  rw [hln]
  clear hln
  have INS := Lib.hid (fun W (hb : Below w3.heap.size w3 W) => poolinst_any (PL.out.then hb).at_)
  have CNT := Lib.hid (fun W (hb : Below w3.heap.size w3 W) => HN.out ▸ poolcount_any (PL.out.then hb).at_)
  cases hb : badS N S
  rotate_left
  · clear hb
    go_wp2_with fail
    go_ret
    exact ⟨rfl, BW4.out⟩
  have hb9 := Lib.hid hb
  clear hb
  go_wp2_with fail
  go_at_call 35
  refine (INS.out w4 B34.out).mono ?_
  rintro e w5 ⟨rfl, hb5⟩
  have B45 := Lib.hid hb5
  have B35 := Lib.hid (B34.out.trans (hb5.mono B34.out.size))
  have BW5 := Lib.hid (BW4.out.trans (hb5.mono BW4.out.size))
  clear hb5 INS
  by_cases hm0 : more < (I0 : Int)
  · go_wp2_with fail
    go_ret
    exact ⟨rfl, BW5.out⟩
  have hm1' : ¬ more < (I0 : Int) := hm0
  go_wp2_with fail
  go_at_call 33
  refine (CNT.out w5 B35.out).mono ?_
  rintro e w6 ⟨rfl, hb6⟩
  have B46 := Lib.hid (B45.out.trans (hb6.mono B45.out.size))
  have B36 := Lib.hid (B35.out.trans (hb6.mono B35.out.size))
  have BW6 := Lib.hid (BW5.out.trans (hb6.mono BW5.out.size))
  clear hb6 CNT B45 B35 BW5
  by_cases hm2' : (N : Int) ≤ more
  · go_wp2_with fail
    go_ret
    exact ⟨rfl, BW6.out⟩
  obtain ⟨mk, rfl⟩ : ∃ mk : Nat, more = (mk : Int) := ⟨more.toNat, by omega⟩
  have HK1 := Lib.hid (show I0 ≤ mk by omega)
  have HK2 := Lib.hid (show mk < N by omega)
  have hk1 : ¬ mk < I0 := by omega
  have hk2 : ¬ N ≤ mk := by omega
  have hk3 : mk ≤ 100 := by omega
  have HBL := Lib.hid (show badS L.length S = false from HN.out.symm ▸ hb9.out)
  have LR6 := Lib.hid ((LR.out.below B46.out).more B46.out.size)
  have HOW := Lib.hid (show Own encI 1 w6.heap.size 3 (.slice (some ⟨w6.heap.size, 0, none⟩) 1 1) [(mk : Int)] (w6.alloc (.cells #[.int .i64 (mk : Int)] 3)) from own_made (enc := encI) (size := 1) (fun _ => rfl) [(mk : Int)] w6 3 (by simp))
  have B67 := Lib.hid ((Below.refl w6.heap.size w6).alloc (Nat.le_refl _) (.cells #[.int .i64 (mk : Int)] 3))
  clear LR B34 B46 hm0
  obtain ⟨i0, hi, hz0, hz1, hz2⟩ := info_parts infoIntA
  go_wp2_with fail
  obtain ⟨w7, hw7⟩ : ∃ w7, w7 = w6.alloc (.cells #[.int .i64 (mk : Int)] 3) := ⟨_, rfl⟩
  have HOW7 := Lib.hid (show Own encI 1 w6.heap.size 3 (.slice (some ⟨w6.heap.size, 0, none⟩) 1 1) [(mk : Int)] w7 from hw7 ▸ HOW.out)
  have B67' := Lib.hid (show Below w6.heap.size w6 w7 from hw7 ▸ B67.out)
  rw [← hw7]
  clear HOW B67 hw7
  go_loopw [13, 14] (fun wv iv wr => ∃ (q : Nat) (z : Int), q ≤ m ∧ iv = .int .i64 z ∧ Hid (z = (q : Int) - 1) ∧ Own encI 1 w6.heap.size 3 wv ((mk : Int) :: (S.drop q).reverse) wr ∧ Below w6.heap.size w6 wr) (fun _ iv _ => (intOf iv + 1).toNat)
  case atStart => exact ⟨m, _, Nat.le_refl _, rfl, Lib.hid rfl, by rw [List.drop_eq_nil_of_le (by have := HM.out; omega)]; exact HOW7.out, B67'.out⟩
  case round =>
    obtain ⟨q, z, hq, rfl, HZ, how, hB⟩ := hrel
    rename World => wr
    have HB := Lib.hid hB
    have OV := Lib.hid how
    obtain ⟨WA, wc, rfl⟩ := own_shape how
    have HWL := Lib.hid (show ((mk : Int) :: (S.drop q).reverse).length = m - q + 1 from by rw [List.length_cons, List.length_reverse, List.length_drop, HM.out])
    clear hB how HOW7 B67'
    cases q with
    | succ r =>
      have hrl : r < S.length := by have := HM.out; omega
      obtain rfl : z = (r : Int) := by have := HZ.out; omega
      have BWR := BW6.out.trans (HB.out.mono BW6.out.size)
      obtain ⟨b, oo, hA, hb, e0⟩ := ((HS.out.below BWR).more BWR.size).int_at hrl
      have HDR := Lib.hid (show ((mk : Int) :: (S.drop r).reverse) = ((mk : Int) :: (S.drop (r + 1)).reverse) ++ [S[r]] from by rw [List.drop_eq_getElem_cons hrl, List.reverse_cons, List.cons_append])
      obtain ⟨DL, hDL⟩ : ∃ DL, DL = (mk : Int) :: (S.drop (r + 1)).reverse := ⟨_, rfl⟩
      rw [← hDL] at HDR OV HWL ⊢
      clear hDL
      obtain ⟨wn, hwn⟩ : ∃ wn, DL.length = wn := ⟨_, rfl⟩
      have HWN := Lib.hid hwn
      rw [hwn] at OV HWL ⊢
      generalize S[r] = sv at *
      have hwn1 : wn ≤ 201 := by have := HWL.out; omega
      subst hA
      have i0' : (0 : Int) ≤ (r : Int) := by omega
      have i1 : (r : Int) < (m : Int) := by omega
      have OVA := Lib.hid (World.ownsRow.alloc OV.out (.cells #[.int .i64 sv] 3))
      clear HZ BWR hwn OV
      go_wp2_with (at_builtin; refine wpList_append_own _ rfl _ _ 42 rfl w6.heap.size 3 i0 (.int .i64 0) 1 8 Tryz.underlying42 hi hz0 hz1 hz2 rfl (by decide) _ _ _ rfl OVA.out ⟨wr.heap.size, 0, none⟩ 1 1 [.int .i64 sv] rfl rfl ?c1 ?c2 ?c3 ?c4 ?c5 ?c6)
      case c1 => exact cell_one_new _ _ _
      case c2 => simp [Value.oneCell']
      case c3 => have := HWN.out; unfold maxLen; omega
      case c4 => have := HWN.out; omega
      case c5 => simp only [World.size_alloc]; have := HB.out.size; omega
      case c6 =>
        intro v' wx ho6 hg6 _
        try rw [← HWN.out] at ho6
        have B6' := Lib.hid ((HB.out.alloc HB.out.size _).grown hg6 (by simp only [World.size_alloc]; have := HB.out.size; omega) (fun j hj => (World.ownsRow.lt OVA.out j hj).1))
        have OV6 := Lib.hid (Own.snoc (x := sv) ho6)
        clear ho6 hg6 OVA HB e0 hb
        have HO6 := Lib.hid (show Own encI 1 w6.heap.size 3 v' ((mk : Int) :: (S.drop r).reverse) wx from by rw [HDR.out]; exact OV6.out)
        go_wp2_with fail
        go_roundw
        case rel => exact ⟨r, (r : Int) - 1, by omega, rfl, Lib.hid rfl, HO6.out, B6'.out⟩
        case measure => first | (simp [intOf]; done) | (first | (simp [intOf]; done) | (simp [intOf]; omega))
    | zero =>
      have hz1' : ¬ (0 : Int) ≤ z := by have := HZ.out; omega
      have OV0 := Lib.hid (show Own encI 1 w6.heap.size 3 (.slice WA ((mk : Int) :: (S.drop 0).reverse).length wc) ((mk : Int) :: S.reverse) wr from OV.out)
      obtain ⟨wn, hwn⟩ : ∃ wn, ((mk : Int) :: (S.drop 0).reverse).length = wn := ⟨_, rfl⟩
      rw [hwn] at OV0 HWL ⊢
      have hwn1 : wn = m + 1 := by have := HWL.out; omega
      have HWN := Lib.hid (show ((mk : Int) :: S.reverse).length = wn from hwn)
      obtain ⟨WA2, wc2, hE, hrd⟩ := OV0.out.rd (fun _ => rfl)
      simp only [Value.slice.injEq] at hE
      obtain ⟨rfl, hx9, rfl⟩ := hE
      have RDW := Lib.hid hrd
      have B3R := Lib.hid (B36.out.trans (HB.out.mono B36.out.size))
      have LRR := Lib.hid ((LR6.out.below HB.out).more HB.out.size)
      have BWR := Lib.hid (BW6.out.trans (HB.out.mono BW6.out.size))
      have OFM := Lib.hid (OF.out wr B3R.out WA wc ((mk : Int) :: S.reverse) wn HWN.out RDW.out (by omega))
      rw [bad_more HK2.out, hb9.out] at OFM
      clear hx9 hrd hwn OV OV0 hwn1 HWL HZ OF B36 LR6 BW6 HB RDW
      obtain ⟨MM, hMM⟩ : ∃ MM, MM = stepsV L I0 ((mk : Int) :: S.reverse) := ⟨_, rfl⟩
      rw [← hMM] at OFM
      have HMM := Lib.hid hMM
      obtain ⟨mn, hmn⟩ : ∃ mn, MM.length = mn := ⟨_, rfl⟩
      rw [hmn] at OFM
      have HMN := Lib.hid hmn
      clear hMM hmn
      go_wp2_with fail
      go_at_call 22
      refine OFM.out.mono ?_
      rintro e w8 ⟨MA, mc, rfl, hmr, hb8⟩
      have MR := Lib.hid hmr
      have B38 := Lib.hid (B3R.out.trans (hb8.mono B3R.out.size))
      have BW8 := Lib.hid (BWR.out.trans (hb8.mono BWR.out.size))
      have LR8 := Lib.hid ((LRR.out.below hb8).more hb8.size)
      clear hmr hb8 OFM LRR B3R BWR
      have HC1 := Lib.hid (show Calls Tryz.prog 34 #[.slice A m c, .int .i64 (mk : Int)] w8 fun e w' => e = .returned (.bool (S.contains (mk : Int))) ∧ Below w8.heap.size w8 w' from HM.out ▸ has30_any A c S (mk : Int) w8 (by have := HM.out; omega) ((HS.out.below BW8.out).more BW8.out.size))
      obtain ⟨cin, hcin⟩ : ∃ cin, S.contains (mk : Int) = cin := ⟨_, rfl⟩
      rw [hcin] at HC1
      have HCI := Lib.hid hcin
      clear hcin
      go_wp2_with fail
      go_at_call 34
      refine HC1.out.mono ?_
      rintro e w9 ⟨rfl, hb9'⟩
      have B39 := Lib.hid (B38.out.trans (hb9'.mono B38.out.size))
      have BW9 := Lib.hid (BW8.out.trans (hb9'.mono BW8.out.size))
      have LR9 := Lib.hid ((LR8.out.below hb9').more hb9'.size)
      have MR9 := Lib.hid ((MR.out.below hb9').more hb9'.size)
      clear hb9' HC1 LR8 MR B38 BW8
      have HLL := Lib.hid (show (stepsV L I0 S).length ≤ 100 from by have := stepsV_len HL1.out HBL.out; have h2 := chgs_le (I0 := I0) (S := S) L.length; have := HN.out; omega)
      have HML := Lib.hid (show MM.length ≤ 100 from by rw [HMM.out]; have := stepsV_len (S := (mk : Int) :: S.reverse) HL1.out (by rw [bad_more (by have := HK2.out; have := HN.out; omega)]; exact HBL.out); have h2 := chgs_le (I0 := I0) (S := (mk : Int) :: S.reverse) L.length; have := HN.out; omega)
      have hmn1 : mn ≤ 100 := by have := HML.out; have := HMN.out; omega
      have hln1 : ln ≤ 100 := by have := HLL.out; have := HLN.out; omega
      cases cin
      rotate_left
      · have SM := Lib.hid (same30_any LA MA lc mc (stepsV L I0 S) MM w9 (by have := HLL.out; omega) (by have := HML.out; omega) LR9.out MR9.out)
        rw [HLN.out, HMN.out, decide_eq_true (show stepsV L I0 S = MM from by rw [HMM.out, more_same HCI.out])] at SM
        go_wp2_with fail
        go_at_call 26
        refine SM.out.mono ?_
        rintro e wa ⟨rfl, hba⟩
        have Ba := Lib.hid (BW9.out.trans (hba.mono BW9.out.size))
        clear hba
        go_wp2_with fail
        go_ret
        exact ⟨rfl, Ba.out⟩
      obtain ⟨hf1, hf2⟩ := more_numbers HL1.out HBL.out (more := mk) (by have := HK1.out; omega) (by have := HK2.out; have := HN.out; omega) HCI.out
      rw [← HMM.out] at hf1 hf2
      have HF1 := Lib.hid hf1
      have HF2 := Lib.hid (show mn = ln + 1 from by rw [← HMN.out, ← HLN.out]; exact hf2)
      clear hf1 hf2
      go_wp2_with fail
      go_loopw [17, 18] (fun kv iv wy => ∃ ii : Nat, ii ≤ mn ∧ iv = .int .i64 (ii : Int) ∧ kv = .int .i64 (((MM.take ii).filter fun x => !decide (x.2 = (mk : Int))).length : Int) ∧ Below w9.heap.size w9 wy) (fun _ iv _ => mn - (intOf iv).toNat)
      case atStart => exact ⟨0, by omega, rfl, rfl, Below.refl _ _⟩
      case round =>
        obtain ⟨ii, hii, rfl, rfl, hB⟩ := hrel
        rename World => wy
        have BY := Lib.hid hB
        obtain ⟨k, hk⟩ : ∃ k, ((MM.take ii).filter fun x => !decide (x.2 = (mk : Int))).length = k := ⟨_, rfl⟩
        have HKK := Lib.hid hk
        rw [hk]
        clear hB hk
        by_cases hlt : ii < mn
        · have hil : ii < MM.length := by have := HMN.out; omega
          obtain ⟨mb, mo, hMA, hmb, m0, m1⟩ := ((MR9.out.below BY.out).more BY.out.size).st_at hil
          have HTS := Lib.hid (show MM.take (ii + 1) = MM.take ii ++ [MM[ii]] from List.take_succ_eq_append_getElem hil)
          have HFA := Lib.hid (fun h => filter_at (fun x : Int × Int => !decide (x.2 = (mk : Int))) MM ii hil h)
          subst hMA
          obtain ⟨kd, hkd⟩ : ∃ kd, MM[ii].1 = kd := ⟨_, rfl⟩
          obtain ⟨pz, hpz⟩ : ∃ pz, MM[ii].2 = pz := ⟨_, rfl⟩
          rw [hkd] at m0
          rw [hpz] at m1
          have HPZ := Lib.hid hpz
          have M1 := Lib.hid m1
          have HMB := Lib.hid hmb
          have HI0' := Lib.hid (show (0 : Int) ≤ (ii : Int) by omega)
          have HI1' := Lib.hid (show (ii : Int) < (mn : Int) by omega)
          have i1 := HI1'.out
          have i0'' := HI0'.out
          by_cases hpm : pz = (mk : Int)
          · have HTK := Lib.hid (show ((MM.take (ii + 1)).filter fun x => !decide (x.2 = (mk : Int))).length = k from by rw [HTS.out, List.filter_append, List.length_append, HKK.out, List.filter_cons, HPZ.out, decide_eq_true hpm]; simp)
            have HPM := Lib.hid hpm
            have HPM := Lib.hid hpm
            rw [hpm] at m1
            clear hkd hpz hpm m0 hmb HFA
            go_wp2_with fail
            go_roundw
            case rel => exact ⟨ii + 1, by omega, by go_num, by rw [HTK.out], BY.out⟩
            case measure => simp [intOf]; omega
          · have hpd : (!decide (MM[ii].2 = (mk : Int))) = true := by rw [hpz, decide_eq_false hpm]; rfl
            have hfa := HFA.out hpd
            rw [HKK.out] at hfa
            have HTK := Lib.hid (show ((MM.take (ii + 1)).filter fun x => !decide (x.2 = (mk : Int))).length = k + 1 from by rw [HTS.out, List.filter_append, List.length_append, HKK.out, List.filter_cons, if_pos hpd]; simp)
            have hg : ((stepsV L I0 S).map (fun x => x.2))[k]? = some pz := by rw [← HF1.out, List.getElem?_map, hfa, ← hpz]; rfl
            rw [List.getElem?_map, Option.map_eq_some_iff] at hg
            obtain ⟨y, hy1, hy2⟩ := hg
            obtain ⟨hkl, hy3⟩ := List.getElem?_eq_some_iff.1 hy1
            obtain ⟨lb, lo, hLA, hlb, l0, l1⟩ := ((LR9.out.below BY.out).more BY.out.size).st_at hkl
            rw [hy3, hy2] at l1
            subst hLA
            have L1 := Lib.hid l1
            have HLB := Lib.hid hlb
            have HKL := Lib.hid (show (k : Int) < (ln : Int) by have := HLN.out; omega)
            have HK0 := Lib.hid (show (0 : Int) ≤ (k : Int) by omega)
            have hpm2 : (pz == (mk : Int)) = false := beq_eq_false_iff_ne.2 hpm
            have hkb2 : k ≤ 100 := by have := HLL.out; omega
            clear hkd hpz m0 hmb HFA hpd hfa hy1 hy2 hy3 l0 l1 hlb HTS
            go_wp2_with fail
            refine wp_region_tail (PP := mo24 lb lo ln lc mb mo mn mc k ii pz) 17 rfl (by kernel_rfl) (by kernel_rfl) (by decide) (by decide) (mo24_mono lb lo ln lc mb mo mn mc k ii pz) (fun ii => match ii with | 0 => u100 | 1 => u101 | 2 => u102 | 3 => u103 | 4 => u104 | 5 => u105 | 6 => u106 | 7 => u107 | 8 => u108 | 9 => u109 | 10 => u110 | 11 => u111 | 12 => u112 | 13 => u113 | 14 => u114 | 15 => u115 | 16 => u116 | _ => undef) (by simp [fillV, put_someT, setIfInBounds_toArray, set_cons_zero, set_cons_succ]) ?_ ?_
            · intro i o vs W hi ho he hBW K hK
              simp only [take_succ_cons, take_zero, fillV, put_someT, setIfInBounds_toArray, set_cons_zero, set_cons_succ] at hK ⊢
              have L1W := Lib.hid ((hBW.cell (p := ⟨lb, lo + k * 2 + 1, none⟩) HLB.out).trans L1.out)
              have M1W := Lib.hid ((hBW.cell (p := ⟨mb, mo + ii * 2 + 1, none⟩) HMB.out).trans M1.out)
              obtain rfl | rfl | rfl | rfl | rfl | rfl | rfl | rfl | rfl | rfl | rfl | rfl | rfl | rfl | rfl | rfl | rfl := (show i = 0 ∨ i = 1 ∨ i = 2 ∨ i = 3 ∨ i = 4 ∨ i = 5 ∨ i = 6 ∨ i = 7 ∨ i = 8 ∨ i = 9 ∨ i = 10 ∨ i = 11 ∨ i = 12 ∨ i = 13 ∨ i = 14 ∨ i = 15 ∨ i = 16 by exact (by have : i < 17 := hi; omega))
              · simp only [getElem?_toArray, getElem?_cons_zero, getElem?_cons_succ, Option.some.injEq] at ho
                subst ho
                rw [if_pos (by rfl)]
                simp only [put_someT, setIfInBounds_toArray, set_cons_zero, set_cons_succ] at hK
                have HK := Lib.hid hK
                clear hK he hi hBW
                go_simp
                exact HK.out _ _ (by first | rfl | simp [mo24]) (Below.refl _ _)
              · simp only [getElem?_toArray, getElem?_cons_zero, getElem?_cons_succ, Option.some.injEq] at ho
                subst ho
                rw [if_pos (by rfl)]
                simp only [put_someT, setIfInBounds_toArray, set_cons_zero, set_cons_succ] at hK
                have HK := Lib.hid hK
                clear hK he hi hBW
                go_simp
                exact HK.out _ _ (by first | rfl | simp [mo24]) (Below.refl _ _)
              · simp only [getElem?_toArray, getElem?_cons_zero, getElem?_cons_succ, Option.some.injEq] at ho
                subst ho
                have e1 : vs 1 = .slice (some ⟨lb, lo, none⟩) ln lc := (he ⟨1, .data⟩ (by simp) rfl : mo24 lb lo ln lc mb mo mn mc k ii pz 1 (vs 1) W)
                rw [e1] at hK ⊢
                rw [if_pos (by rfl)]
                simp only [put_someT, setIfInBounds_toArray, set_cons_zero, set_cons_succ] at hK
                have HK := Lib.hid hK
                clear hK he hi hBW
                go_simp
                exact HK.out _ _ (by first | rfl | simp [mo24]) (Below.refl _ _)
              · simp only [getElem?_toArray, getElem?_cons_zero, getElem?_cons_succ, Option.some.injEq] at ho
                subst ho
                have e0 : vs 0 = .int .i64 (k : Int) := (he ⟨0, .data⟩ (by simp) rfl : mo24 lb lo ln lc mb mo mn mc k ii pz 0 (vs 0) W)
                rw [e0] at hK ⊢
                have e2 : vs 2 = .int .i64 (ln : Int) := (he ⟨2, .data⟩ (by simp) rfl : mo24 lb lo ln lc mb mo mn mc k ii pz 2 (vs 2) W)
                rw [e2] at hK ⊢
                rw [if_pos (by rfl)]
                simp only [put_someT, setIfInBounds_toArray, set_cons_zero, set_cons_succ] at hK
                have HK := Lib.hid hK
                clear hK he hi hBW
                have i2 := HKL.out
                go_simp
                exact HK.out _ _ (by simp [mo24]; try omega) (Below.refl _ _)
              · simp only [getElem?_toArray, getElem?_cons_zero, getElem?_cons_succ, Option.some.injEq] at ho
                subst ho
                have e3 : vs 3 = .bool false := (he ⟨3, .data⟩ (by simp) rfl : mo24 lb lo ln lc mb mo mn mc k ii pz 3 (vs 3) W)
                rw [e3] at hK ⊢
                rw [if_pos (by rfl)]
                simp only [put_someT, setIfInBounds_toArray, set_cons_zero, set_cons_succ] at hK
                have HK := Lib.hid hK
                clear hK he hi hBW
                go_simp
                exact HK.out _ _ (by first | rfl | simp [mo24]) (Below.refl _ _)
              · simp only [getElem?_toArray, getElem?_cons_zero, getElem?_cons_succ, Option.some.injEq] at ho
                subst ho
                have e4 : vs 4 = .bool false := (he ⟨4, .guard⟩ (by simp) rfl : mo24 lb lo ln lc mb mo mn mc k ii pz 4 (vs 4) W)
                rw [e4] at hK ⊢
                rw [if_pos (by rfl)]
                simp only [put_someT, setIfInBounds_toArray, set_cons_zero, set_cons_succ] at hK
                have HK := Lib.hid hK
                clear hK he hi hBW
                go_simp
                exact HK.out _ _ (by first | rfl | simp [mo24]) (Below.refl _ _)
              · simp only [getElem?_toArray, getElem?_cons_zero, getElem?_cons_succ, Option.some.injEq] at ho
                subst ho
                have e4 : vs 4 = .bool false := (he ⟨4, .guard⟩ (by simp) rfl : mo24 lb lo ln lc mb mo mn mc k ii pz 4 (vs 4) W)
                rw [e4] at hK ⊢
                rw [if_pos (by rfl)]
                simp only [put_someT, setIfInBounds_toArray, set_cons_zero, set_cons_succ] at hK
                have HK := Lib.hid hK
                clear hK he hi hBW
                go_simp
                exact HK.out _ _ (by first | rfl | simp [mo24]) (Below.refl _ _)
              · simp only [getElem?_toArray, getElem?_cons_zero, getElem?_cons_succ, Option.some.injEq] at ho
                subst ho
                have e5 : vs 5 = .slice (some ⟨lb, lo, none⟩) ln lc := (he ⟨5, .data⟩ (by simp) rfl : mo24 lb lo ln lc mb mo mn mc k ii pz 5 (vs 5) W)
                rw [e5] at hK ⊢
                have e6 : vs 6 = .int .i64 (k : Int) := (he ⟨6, .data⟩ (by simp) rfl : mo24 lb lo ln lc mb mo mn mc k ii pz 6 (vs 6) W)
                rw [e6] at hK ⊢
                have e4 : vs 4 = .bool false := (he ⟨4, .guard⟩ (by simp) rfl : mo24 lb lo ln lc mb mo mn mc k ii pz 4 (vs 4) W)
                rw [e4] at hK ⊢
                rw [if_pos (by rfl)]
                simp only [put_someT, setIfInBounds_toArray, set_cons_zero, set_cons_succ] at hK
                have HK := Lib.hid hK
                clear hK he hi hBW
                have i1 := HK0.out
                have i2 := HKL.out
                go_simp
                exact HK.out _ _ (by simp [mo24]) (Below.refl _ _)
              · simp only [getElem?_toArray, getElem?_cons_zero, getElem?_cons_succ, Option.some.injEq] at ho
                subst ho
                have e7 : vs 7 = .pointer (some ⟨lb, lo + k * 2, none⟩) := (he ⟨7, .data⟩ (by simp) rfl : mo24 lb lo ln lc mb mo mn mc k ii pz 7 (vs 7) W)
                rw [e7] at hK ⊢
                have e4 : vs 4 = .bool false := (he ⟨4, .guard⟩ (by simp) rfl : mo24 lb lo ln lc mb mo mn mc k ii pz 4 (vs 4) W)
                rw [e4] at hK ⊢
                rw [if_pos (by rfl)]
                simp only [put_someT, setIfInBounds_toArray, set_cons_zero, set_cons_succ] at hK
                have HK := Lib.hid hK
                clear hK he hi hBW
                go_simp
                exact HK.out _ _ (by first | rfl | simp [mo24]) (Below.refl _ _)
              · simp only [getElem?_toArray, getElem?_cons_zero, getElem?_cons_succ, Option.some.injEq] at ho
                subst ho
                have e8 : vs 8 = .pointer (some ⟨lb, lo + k * 2 + 1, none⟩) := (he ⟨8, .data⟩ (by simp) rfl : mo24 lb lo ln lc mb mo mn mc k ii pz 8 (vs 8) W)
                rw [e8] at hK ⊢
                have e4 : vs 4 = .bool false := (he ⟨4, .guard⟩ (by simp) rfl : mo24 lb lo ln lc mb mo mn mc k ii pz 4 (vs 4) W)
                rw [e4] at hK ⊢
                rw [if_pos (by rfl)]
                simp only [put_someT, setIfInBounds_toArray, set_cons_zero, set_cons_succ] at hK
                have HK := Lib.hid hK
                clear hK he hi hBW
                have cc := L1W.out
                go_simp
                exact HK.out _ _ rfl (Below.refl _ _)
              · simp only [getElem?_toArray, getElem?_cons_zero, getElem?_cons_succ, Option.some.injEq] at ho
                subst ho
                have e4 : vs 4 = .bool false := (he ⟨4, .guard⟩ (by simp) rfl : mo24 lb lo ln lc mb mo mn mc k ii pz 4 (vs 4) W)
                rw [e4] at hK ⊢
                rw [if_pos (by rfl)]
                simp only [put_someT, setIfInBounds_toArray, set_cons_zero, set_cons_succ] at hK
                have HK := Lib.hid hK
                clear hK he hi hBW
                go_simp
                exact HK.out _ _ (by first | rfl | simp [mo24]) (Below.refl _ _)
              · simp only [getElem?_toArray, getElem?_cons_zero, getElem?_cons_succ, Option.some.injEq] at ho
                subst ho
                have e4 : vs 4 = .bool false := (he ⟨4, .guard⟩ (by simp) rfl : mo24 lb lo ln lc mb mo mn mc k ii pz 4 (vs 4) W)
                rw [e4] at hK ⊢
                rw [if_pos (by rfl)]
                simp only [put_someT, setIfInBounds_toArray, set_cons_zero, set_cons_succ] at hK
                have HK := Lib.hid hK
                clear hK he hi hBW
                go_simp
                exact HK.out _ _ (by first | rfl | simp [mo24]) (Below.refl _ _)
              · simp only [getElem?_toArray, getElem?_cons_zero, getElem?_cons_succ, Option.some.injEq] at ho
                subst ho
                have e10 : vs 10 = .slice (some ⟨mb, mo, none⟩) mn mc := (he ⟨10, .data⟩ (by simp) rfl : mo24 lb lo ln lc mb mo mn mc k ii pz 10 (vs 10) W)
                rw [e10] at hK ⊢
                have e11 : vs 11 = .int .i64 (ii : Int) := (he ⟨11, .data⟩ (by simp) rfl : mo24 lb lo ln lc mb mo mn mc k ii pz 11 (vs 11) W)
                rw [e11] at hK ⊢
                have e4 : vs 4 = .bool false := (he ⟨4, .guard⟩ (by simp) rfl : mo24 lb lo ln lc mb mo mn mc k ii pz 4 (vs 4) W)
                rw [e4] at hK ⊢
                rw [if_pos (by rfl)]
                simp only [put_someT, setIfInBounds_toArray, set_cons_zero, set_cons_succ] at hK
                have HK := Lib.hid hK
                clear hK he hi hBW
                have i1 := HI0'.out
                have i2 := HI1'.out
                go_simp
                exact HK.out _ _ (by simp [mo24]) (Below.refl _ _)
              · simp only [getElem?_toArray, getElem?_cons_zero, getElem?_cons_succ, Option.some.injEq] at ho
                subst ho
                have e12 : vs 12 = .pointer (some ⟨mb, mo + ii * 2, none⟩) := (he ⟨12, .data⟩ (by simp) rfl : mo24 lb lo ln lc mb mo mn mc k ii pz 12 (vs 12) W)
                rw [e12] at hK ⊢
                have e4 : vs 4 = .bool false := (he ⟨4, .guard⟩ (by simp) rfl : mo24 lb lo ln lc mb mo mn mc k ii pz 4 (vs 4) W)
                rw [e4] at hK ⊢
                rw [if_pos (by rfl)]
                simp only [put_someT, setIfInBounds_toArray, set_cons_zero, set_cons_succ] at hK
                have HK := Lib.hid hK
                clear hK he hi hBW
                go_simp
                exact HK.out _ _ (by first | rfl | simp [mo24]) (Below.refl _ _)
              · simp only [getElem?_toArray, getElem?_cons_zero, getElem?_cons_succ, Option.some.injEq] at ho
                subst ho
                have e13 : vs 13 = .pointer (some ⟨mb, mo + ii * 2 + 1, none⟩) := (he ⟨13, .data⟩ (by simp) rfl : mo24 lb lo ln lc mb mo mn mc k ii pz 13 (vs 13) W)
                rw [e13] at hK ⊢
                have e4 : vs 4 = .bool false := (he ⟨4, .guard⟩ (by simp) rfl : mo24 lb lo ln lc mb mo mn mc k ii pz 4 (vs 4) W)
                rw [e4] at hK ⊢
                rw [if_pos (by rfl)]
                simp only [put_someT, setIfInBounds_toArray, set_cons_zero, set_cons_succ] at hK
                have HK := Lib.hid hK
                clear hK he hi hBW
                have cc := M1W.out
                go_simp
                exact HK.out _ _ rfl (Below.refl _ _)
              · simp only [getElem?_toArray, getElem?_cons_zero, getElem?_cons_succ, Option.some.injEq] at ho
                subst ho
                have e9 : vs 9 = .int .i64 pz := (he ⟨9, .data⟩ (by simp) rfl : mo24 lb lo ln lc mb mo mn mc k ii pz 9 (vs 9) W)
                rw [e9] at hK ⊢
                have e14 : vs 14 = .int .i64 pz := (he ⟨14, .data⟩ (by simp) rfl : mo24 lb lo ln lc mb mo mn mc k ii pz 14 (vs 14) W)
                rw [e14] at hK ⊢
                have e4 : vs 4 = .bool false := (he ⟨4, .guard⟩ (by simp) rfl : mo24 lb lo ln lc mb mo mn mc k ii pz 4 (vs 4) W)
                rw [e4] at hK ⊢
                rw [if_pos (by rfl)]
                simp only [put_someT, setIfInBounds_toArray, set_cons_zero, set_cons_succ] at hK
                have HK := Lib.hid hK
                clear hK he hi hBW
                go_simp
                exact HK.out _ _ (by simp [mo24]) (Below.refl _ _)
              · simp only [getElem?_toArray, getElem?_cons_zero, getElem?_cons_succ, Option.some.injEq] at ho
                subst ho
                have e4 : vs 4 = .bool false := (he ⟨4, .data⟩ (by simp) rfl : mo24 lb lo ln lc mb mo mn mc k ii pz 4 (vs 4) W)
                rw [e4] at hK ⊢
                have e15 : vs 15 = .bool false := (he ⟨15, .data⟩ (by simp) rfl : mo24 lb lo ln lc mb mo mn mc k ii pz 15 (vs 15) W)
                rw [e15] at hK ⊢
                rw [if_pos (by rfl)]
                simp only [put_someT, setIfInBounds_toArray, set_cons_zero, set_cons_succ] at hK
                have HK := Lib.hid hK
                clear hK he hi hBW
                go_simp
                exact HK.out _ _ (by first | rfl | simp [mo24]) (Below.refl _ _)
            · intro vs W2 hall hBW
              have e16 : vs 16 = .bool false := (hall 16 (by decide) : mo24 lb lo ln lc mb mo mn mc k ii pz 16 (vs 16) W2)
              simp only [take_succ_cons, take_zero, List.drop_succ_cons, List.drop_zero, fillV, put_someT, put_noneC, setIfInBounds_toArray, set_cons_zero, set_cons_succ]
              rw [e16]
              generalize vs 0 = q0
              generalize vs 1 = q1
              generalize vs 2 = q2
              generalize vs 3 = q3
              generalize vs 4 = q4
              generalize vs 5 = q5
              generalize vs 6 = q6
              generalize vs 7 = q7
              generalize vs 8 = q8
              generalize vs 9 = q9
              generalize vs 10 = q10
              generalize vs 11 = q11
              generalize vs 12 = q12
              generalize vs 13 = q13
              generalize vs 14 = q14
              generalize vs 15 = q15
              have BY2 := Lib.hid (BY.out.trans (hBW.mono BY.out.size))
              clear hall hBW e16
              go_wp2_with fail
              go_roundw
              case rel => exact ⟨ii + 1, by omega, by go_num, by rw [HTK.out]; go_num, BY2.out⟩
              case measure => simp [intOf]; omega
        · obtain rfl : ii = mn := by omega
          have j3 : ¬ (ii : Int) < (ii : Int) := by omega
          have HKE := Lib.hid (show k = ln from by
            have h1 := HKK.out
            rw [List.take_of_length_le (by have := HMN.out; omega)] at h1
            have h2 := congrArg List.length HF1.out
            rw [List.length_map, List.length_map, h1, HLN.out] at h2
            exact h2)
          obtain rfl : k = ln := HKE.out
          obtain rfl : ii = k + 1 := HF2.out
          have BWY := Lib.hid (BW9.out.trans (BY.out.mono BW9.out.size))
          clear HMN HLN HKK HF1 HF2
          go_wp2_with fail
          go_ret
          exact ⟨rfl, BWY.out⟩
end Go.Proofs.YtibeipmcggbbgaaGreatDoor
