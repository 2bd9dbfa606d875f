/- PoolGet -/
import Derived.Test.YteobmfpbgnmffaaGreatDoorStepsNamesRowG31
import Derived.Test.YteobmfpbgnmffaaGreatDoorStepsNamesRowG12
set_option linter.unusedSimpArgs false
set_option linter.unusedVariables false
open List (getElem?_toArray getElem?_cons_zero getElem?_cons_succ setIfInBounds_toArray set_cons_zero set_cons_succ take_succ_cons take_zero)
/- Walks: what a pool tells: how many, the package of a number, whether one obsoletes another one. -/


namespace Go.Proofs.YteobmfpbgnmffaaGreatDoor
open Go.RowKit Go.Shelf
set_option linter.unusedVariables false

theorem word_le {l : Bytes} (h : wordB l = true) : l.length ≤ 64 := (word_iff.1 h).2.1
theorem name_le {l : Bytes} (h : nameB l = true) : l.length ≤ 64 := by
  unfold nameB at h
  simp only [Bool.and_eq_true, decide_eq_true_eq] at h
  exact h.2.1
theorem evr_le {e : Evr} {dep : Bool} (h : mayB e dep = true) : e.ver.length ≤ 64 ∧ e.rel.length ≤ 64 := by
  unfold mayB at h
  simp only [Bool.and_eq_true, Bool.or_eq_true, decide_eq_true_eq] at h
  refine ⟨word_le h.2.2.1, ?_⟩
  rcases h.2.2.2 with h | ⟨_, h⟩
  · exact word_le h
  · rw [List.isEmpty_iff] at h; rw [h]; simp
theorem dep_small {d : Dp} (h : dmayB d = true) : d.small := by
  unfold dmayB at h
  simp only [Bool.and_eq_true] at h
  have h1 := name_le h.1
  have h2 := h.2.2
  refine ⟨by omega, ?_⟩
  split at h2
  · unfold isZero at h2
    simp only [Bool.and_eq_true, List.isEmpty_iff] at h2
    rw [h2.2.1, h2.2.2]; simp
  · simp only [Bool.and_eq_true] at h2
    have := evr_le h2.2
    exact ⟨by omega, by omega⟩
theorem small_of_may {p : Pk} (h : mayP p = true) : p.small := by
  have hm := (mayP_iff p).1 h
  have he := evr_le hm.e
  have hn := name_le hm.n
  have sz := size_toList
  have he1 : p.ver.toList.length ≤ 64 := he.1
  have he2 : p.rel.toList.length ≤ 64 := he.2
  rw [sz] at hn he1 he2
  have h1 := hm.hpv.1
  have h2 := hm.hob.1
  have h3 := hm.hfi.1
  have h4 := hm.v
  refine ⟨by omega, by omega, by omega, by omega, by omega, by omega, by omega, fun d hd => dep_small (hm.hpv.2 d hd), fun d hd => dep_small (hm.hob.2 d hd), fun s hs => ?_⟩
  have := hm.hfi.2 s hs
  unfold fileS fileB at this
  simp only [Bool.and_eq_true] at this
  have h5 := name_le this.1
  rw [sz] at h5
  omega
theorem evr_ok_of_may {p : Pk} (h : mayP p = true) : p.evr.ok := by
  have := evr_le ((mayP_iff p).1 h).e
  exact ⟨by omega, by omega⟩
/-- a pool, and that its packages may be -/
structure Pool (P : Nat) (I : Int) (L : List Pr) (W : World) : Prop where
  at_ : PoolAt P I L W
  may : ∀ x ∈ L, mayP x.pk = true ∧ x.pk.few
theorem Pool.then {P : Nat} {I : Int} {L : List Pr} {W W' : World} (h : Pool P I L W) (hb : Below W.heap.size W W') : Pool P I L W' := ⟨h.at_.then hb, h.may⟩
theorem few_alike {p q : Pk} (h : Alike p q) (hf : p.few) : q.few :=
  ⟨by rw [h.prov]; exact hf.nprov, by rw [h.obs]; exact hf.nobs, by rw [h.files]; exact hf.nfiles, by rw [h.req]; exact hf.req, by rw [h.con]; exact hf.con, by rw [h.rcm]; exact hf.rcm, by rw [h.sup]; exact hf.sup, by rw [h.sug]; exact hf.sug, by rw [h.enh]; exact hf.enh⟩
theorem may_of_err {repos : List Rp} {ins : List Pk} (h : errOf repos ins = 0) : ∀ x ∈ allP repos ins, mayP x = true := by
  unfold errOf at h
  split at h
  · cases h
  · split at h
    · rename_i h2
      rw [Bool.and_eq_true] at h2
      intro x hx
      rcases List.mem_append.1 hx with hx | hx
      · exact List.all_eq_true.1 h2.1 x hx
      · obtain ⟨r, hr, hx⟩ := List.mem_flatMap.1 hx
        have h3 := List.all_eq_true.1 h2.2 r hr
        unfold rpOk at h3
        rw [Bool.and_eq_true] at h3
        exact List.all_eq_true.1 h3.2 x hx
    · cases h
theorem Pool.of {P : Nat} {I : Int} {L : List Pr} {W : World} {repos : List Rp} {ins : List Pk} (h : PoolAt P I L W) (ha : AllAlike (allP repos ins) L) (he : errOf repos ins = 0) (hf : ∀ x ∈ allP repos ins, x.few) : Pool P I L W := by
  refine ⟨h, fun x hx => ?_⟩
  obtain ⟨i, hi, rfl⟩ := List.getElem_of_mem hx
  have hi2 : i < (allP repos ins).length := by rw [← ha.1]; exact hi
  have hA := ha.2 i hi2 hi
  exact ⟨hA.may.trans (may_of_err he _ (List.getElem_mem hi2)), few_alike hA (hf _ (List.getElem_mem hi2))⟩
theorem pr_cells {B : Nat} {A : Option Addr} {c : Nat} {L : List Pr} {W : World} (h : Rd Pr.cells 17 B A c L W) {k : Nat} (hk : k < L.length) {b o : Nat} (ha : A = some ⟨b, o, none⟩) {x : Pk} (hx : L[k].pk = x) : W.cell? ⟨b, o + k * 17, none⟩ = some (.string x.name) ∧ W.cell? ⟨b, o + k * 17 + 1, none⟩ = some (.int .i64 x.epoch) ∧ W.cell? ⟨b, o + k * 17 + 2, none⟩ = some (.string x.ver) ∧ W.cell? ⟨b, o + k * 17 + 3, none⟩ = some (.string x.rel) ∧ W.cell? ⟨b, o + k * 17 + 4, none⟩ = some (.int .u8 x.arch) ∧ W.cell? ⟨b, o + k * 17 + 5, none⟩ = some (.string x.vendor) ∧ W.cell? ⟨b, o + k * 17 + 6, none⟩ = some (.slice x.provA x.prov.length x.provC) ∧ W.cell? ⟨b, o + k * 17 + 7, none⟩ = some (.slice x.reqA x.req.length x.reqC) ∧ W.cell? ⟨b, o + k * 17 + 8, none⟩ = some (.slice x.conA x.con.length x.conC) ∧ W.cell? ⟨b, o + k * 17 + 9, none⟩ = some (.slice x.obsA x.obs.length x.obsC) ∧ W.cell? ⟨b, o + k * 17 + 10, none⟩ = some (.slice x.rcmA x.rcm.length x.rcmC) ∧ W.cell? ⟨b, o + k * 17 + 11, none⟩ = some (.slice x.supA x.sup.length x.supC) ∧ W.cell? ⟨b, o + k * 17 + 12, none⟩ = some (.slice x.sugA x.sug.length x.sugC) ∧ W.cell? ⟨b, o + k * 17 + 13, none⟩ = some (.slice x.enhA x.enh.length x.enhC) ∧ W.cell? ⟨b, o + k * 17 + 14, none⟩ = some (.slice x.filesA x.files.length x.filesC) := by
  obtain ⟨b', o', e, _, hc⟩ := h.cells hk
  rw [ha] at e
  cases e
  subst hx
  exact ⟨hc 0 _ rfl, hc 1 _ rfl, hc 2 _ rfl, hc 3 _ rfl, hc 4 _ rfl, hc 5 _ rfl, hc 6 _ rfl, hc 7 _ rfl, hc 8 _ rfl, hc 9 _ rfl, hc 10 _ rfl, hc 11 _ rfl, hc 12 _ rfl, hc 13 _ rfl, hc 14 _ rfl⟩
/-- does the one obsolete the other? -/
def obsP (L : List Pr) (i j : Int) : Bool := decide (0 ≤ i ∧ i < (L.length : Int)) && (decide (0 ≤ j ∧ j < (L.length : Int)) && (decide (i ≠ j) && (match L[i.toNat]?, L[j.toNat]? with | some x, some y => x.pk.obs.any fun d => meetsN y.pk.ownD d | _, _ => false)))
set_option maxRecDepth 100000 in
theorem prows_is (A : Option Addr) (c : Nat) (i : Int) (n : Nat) (w : World) (hn : n ≤ 1000000) : Calls Tryz.prog 102 #[.slice A n c, .int .i64 i] w fun e w' => e = .returned (.bool (decide (0 ≤ i ∧ i < (n : Int)))) ∧ Below w.heap.size w w' := by
  by_cases h1 : 0 ≤ i
  · go_enter Tryz.func102, Tryz.ntmps102
    go_wp2_with fail
    go_ret
    exact ⟨by simp [h1], Below.refl _ _⟩
  · go_enter Tryz.func102, Tryz.ntmps102
    go_wp2_with fail
    go_ret
    exact ⟨by simp [h1]; intro h; omega, Below.refl _ _⟩
set_option maxRecDepth 100000 in
theorem poolcount_any {P : Nat} {I : Int} {L : List Pr} {w : World} (h : PoolAt P I L w) : Calls Tryz.prog 61 #[.pointer (some ⟨P, 0, none⟩)] w fun e w' => e = .returned (.int .i64 (L.length : Int)) ∧ Below w.heap.size w w' := by
  obtain ⟨A, c, h0, _⟩ := h.row
  clear h
  go_enter Tryz.func61, Tryz.ntmps61
  go_wp2_with fail
  go_ret
  exact ⟨rfl, Below.refl _ _⟩
set_option maxRecDepth 100000 in
theorem poolinst_any {P : Nat} {I : Int} {L : List Pr} {w : World} (h : PoolAt P I L w) : Calls Tryz.prog 86 #[.pointer (some ⟨P, 0, none⟩)] w fun e w' => e = .returned (.int .i64 I) ∧ Below w.heap.size w w' := by
  have h1 := h.c1
  clear h
  go_enter Tryz.func86, Tryz.ntmps86
  go_wp2_with fail
  go_ret
  exact ⟨rfl, Below.refl _ _⟩
theorem pool_obs {P : Nat} {I : Int} {L : List Pr} {w : World} (h : Pool P I L w) {k m : Nat} (hk : k < L.length) (hm : m < L.length) (W : World) (hb : Below w.heap.size w W) : Calls Tryz.prog 178 #[L[k].pk.val, L[m].pk.val] W fun r w' => r = .returned (.bool (L[k].pk.obs.any fun d => meetsN L[m].pk.ownD d)) ∧ Below W.heap.size W w' :=
  pkobs_any _ _ W ((h.then hb).at_.laid _ (List.getElem_mem hk)) (small_of_may (h.may _ (List.getElem_mem hk)).1) (evr_ok_of_may (h.may _ (List.getElem_mem hm)).1)
def pgA (P n c : Nat) (A : Option Addr) (i j : Int) (k : Nat) (v : Value) (W : World) : Prop := match k with
  | 0 => v = .pointer (some ⟨P, 0, none⟩)
  | 1 => v = .bool true
  | 2 => v = .bool true
  | 3 => v = .pointer (some ⟨P, 0, none⟩)
  | 4 => v = .pointer (some ⟨P, 0, none⟩)
  | 5 => v = .pointer (some ⟨P, 0, none⟩)
  | 6 => v = .slice A n c
  | 7 => v = .int .i64 i
  | 8 => v = .bool false
  | 9 => v = .bool false
  | 10 => v = .bool false
  | 11 => v = undef
  | 12 => v = undef
  | 13 => v = undef
  | 14 => v = undef
  | 15 => v = undef
  | 16 => v = undef
  | 17 => v = .bool false
  | 18 => v = .bool false
  | 19 => v = undef
  | 20 => v = undef
  | 21 => v = undef
  | 22 => v = .bool false
  | 23 => v = .bool false
  | 24 => v = undef
  | 25 => v = undef
  | 26 => v = undef
  | 27 => v = undef
  | 28 => v = undef
  | 29 => v = undef
  | 30 => v = undef
  | 31 => v = undef
  | 32 => v = undef
  | 33 => v = undef
  | 34 => v = undef
  | 35 => v = undef
  | 36 => v = undef
  | 37 => v = undef
  | 38 => v = undef
  | 39 => v = undef
  | 40 => v = undef
  | 41 => v = .bool false
  | 42 => v = .bool false
  | _ => False
theorem pgA_mono (P n c : Nat) (A : Option Addr) (i j : Int) : ∀ k v w w', pgA P n c A i j k v w → Below w.heap.size w w' → pgA P n c A i j k v w' := by
  intro k v w w' h hb
  match k, h with
  | 0, h => exact h
  | 1, h => exact h
  | 2, h => exact h
  | 3, h => exact h
  | 4, h => exact h
  | 5, h => exact h
  | 6, h => exact h
  | 7, h => exact h
  | 8, h => exact h
  | 9, h => exact h
  | 10, h => exact h
  | 11, h => exact h
  | 12, h => exact h
  | 13, h => exact h
  | 14, h => exact h
  | 15, h => exact h
  | 16, h => exact h
  | 17, h => exact h
  | 18, h => exact h
  | 19, h => exact h
  | 20, h => exact h
  | 21, h => exact h
  | 22, h => exact h
  | 23, h => exact h
  | 24, h => exact h
  | 25, h => exact h
  | 26, h => exact h
  | 27, h => exact h
  | 28, h => exact h
  | 29, h => exact h
  | 30, h => exact h
  | 31, h => exact h
  | 32, h => exact h
  | 33, h => exact h
  | 34, h => exact h
  | 35, h => exact h
  | 36, h => exact h
  | 37, h => exact h
  | 38, h => exact h
  | 39, h => exact h
  | 40, h => exact h
  | 41, h => exact h
  | 42, h => exact h
  | (k + 43), h => exact h.elim
def pgB (P n c : Nat) (A : Option Addr) (i j : Int) (k : Nat) (v : Value) (W : World) : Prop := match k with
  | 0 => v = .pointer (some ⟨P, 0, none⟩)
  | 1 => v = .bool true
  | 2 => v = .bool true
  | 3 => v = .pointer (some ⟨P, 0, none⟩)
  | 4 => v = .pointer (some ⟨P, 0, none⟩)
  | 5 => v = .pointer (some ⟨P, 0, none⟩)
  | 6 => v = .slice A n c
  | 7 => v = .int .i64 i
  | 8 => v = .bool true
  | 9 => v = .bool true
  | 10 => v = .bool true
  | 11 => v = .pointer (some ⟨P, 0, none⟩)
  | 12 => v = .pointer (some ⟨P, 0, none⟩)
  | 13 => v = .pointer (some ⟨P, 0, none⟩)
  | 14 => v = .slice A n c
  | 15 => v = .int .i64 j
  | 16 => v = .bool false
  | 17 => v = .bool false
  | 18 => v = .bool false
  | 19 => v = undef
  | 20 => v = undef
  | 21 => v = undef
  | 22 => v = .bool false
  | 23 => v = .bool false
  | 24 => v = undef
  | 25 => v = undef
  | 26 => v = undef
  | 27 => v = undef
  | 28 => v = undef
  | 29 => v = undef
  | 30 => v = undef
  | 31 => v = undef
  | 32 => v = undef
  | 33 => v = undef
  | 34 => v = undef
  | 35 => v = undef
  | 36 => v = undef
  | 37 => v = undef
  | 38 => v = undef
  | 39 => v = undef
  | 40 => v = undef
  | 41 => v = .bool false
  | 42 => v = .bool false
  | _ => False
theorem pgB_mono (P n c : Nat) (A : Option Addr) (i j : Int) : ∀ k v w w', pgB P n c A i j k v w → Below w.heap.size w w' → pgB P n c A i j k v w' := by
  intro k v w w' h hb
  match k, h with
  | 0, h => exact h
  | 1, h => exact h
  | 2, h => exact h
  | 3, h => exact h
  | 4, h => exact h
  | 5, h => exact h
  | 6, h => exact h
  | 7, h => exact h
  | 8, h => exact h
  | 9, h => exact h
  | 10, h => exact h
  | 11, h => exact h
  | 12, h => exact h
  | 13, h => exact h
  | 14, h => exact h
  | 15, h => exact h
  | 16, h => exact h
  | 17, h => exact h
  | 18, h => exact h
  | 19, h => exact h
  | 20, h => exact h
  | 21, h => exact h
  | 22, h => exact h
  | 23, h => exact h
  | 24, h => exact h
  | 25, h => exact h
  | 26, h => exact h
  | 27, h => exact h
  | 28, h => exact h
  | 29, h => exact h
  | 30, h => exact h
  | 31, h => exact h
  | 32, h => exact h
  | 33, h => exact h
  | 34, h => exact h
  | 35, h => exact h
  | 36, h => exact h
  | 37, h => exact h
  | 38, h => exact h
  | 39, h => exact h
  | 40, h => exact h
  | 41, h => exact h
  | 42, h => exact h
  | (k + 43), h => exact h.elim
def pgC (P n c : Nat) (A : Option Addr) (i j : Int) (k : Nat) (v : Value) (W : World) : Prop := match k with
  | 0 => v = .pointer (some ⟨P, 0, none⟩)
  | 1 => v = .bool true
  | 2 => v = .bool true
  | 3 => v = .pointer (some ⟨P, 0, none⟩)
  | 4 => v = .pointer (some ⟨P, 0, none⟩)
  | 5 => v = .pointer (some ⟨P, 0, none⟩)
  | 6 => v = .slice A n c
  | 7 => v = .int .i64 i
  | 8 => v = .bool true
  | 9 => v = .bool true
  | 10 => v = .bool true
  | 11 => v = .pointer (some ⟨P, 0, none⟩)
  | 12 => v = .pointer (some ⟨P, 0, none⟩)
  | 13 => v = .pointer (some ⟨P, 0, none⟩)
  | 14 => v = .slice A n c
  | 15 => v = .int .i64 j
  | 16 => v = .bool true
  | 17 => v = .bool true
  | 18 => v = .bool true
  | 19 => v = .int .i64 i
  | 20 => v = .int .i64 j
  | 21 => v = .bool false
  | 22 => v = .bool false
  | 23 => v = .bool false
  | 24 => v = undef
  | 25 => v = undef
  | 26 => v = undef
  | 27 => v = undef
  | 28 => v = undef
  | 29 => v = undef
  | 30 => v = undef
  | 31 => v = undef
  | 32 => v = undef
  | 33 => v = undef
  | 34 => v = undef
  | 35 => v = undef
  | 36 => v = undef
  | 37 => v = undef
  | 38 => v = undef
  | 39 => v = undef
  | 40 => v = undef
  | 41 => v = .bool false
  | 42 => v = .bool false
  | _ => False
theorem pgC_mono (P n c : Nat) (A : Option Addr) (i j : Int) : ∀ k v w w', pgC P n c A i j k v w → Below w.heap.size w w' → pgC P n c A i j k v w' := by
  intro k v w w' h hb
  match k, h with
  | 0, h => exact h
  | 1, h => exact h
  | 2, h => exact h
  | 3, h => exact h
  | 4, h => exact h
  | 5, h => exact h
  | 6, h => exact h
  | 7, h => exact h
  | 8, h => exact h
  | 9, h => exact h
  | 10, h => exact h
  | 11, h => exact h
  | 12, h => exact h
  | 13, h => exact h
  | 14, h => exact h
  | 15, h => exact h
  | 16, h => exact h
  | 17, h => exact h
  | 18, h => exact h
  | 19, h => exact h
  | 20, h => exact h
  | 21, h => exact h
  | 22, h => exact h
  | 23, h => exact h
  | 24, h => exact h
  | 25, h => exact h
  | 26, h => exact h
  | 27, h => exact h
  | 28, h => exact h
  | 29, h => exact h
  | 30, h => exact h
  | 31, h => exact h
  | 32, h => exact h
  | 33, h => exact h
  | 34, h => exact h
  | 35, h => exact h
  | 36, h => exact h
  | 37, h => exact h
  | 38, h => exact h
  | 39, h => exact h
  | 40, h => exact h
  | 41, h => exact h
  | 42, h => exact h
  | (k + 43), h => exact h.elim
def pgD (P n c : Nat) (A : Option Addr) (i j : Int) (b o i9 j9 : Nat) (x y : Pk) (ob : Bool) (k : Nat) (v : Value) (W : World) : Prop := match k with
  | 0 => v = .pointer (some ⟨P, 0, none⟩)
  | 1 => v = .bool true
  | 2 => v = .bool true
  | 3 => v = .pointer (some ⟨P, 0, none⟩)
  | 4 => v = .pointer (some ⟨P, 0, none⟩)
  | 5 => v = .pointer (some ⟨P, 0, none⟩)
  | 6 => v = .slice A n c
  | 7 => v = .int .i64 i
  | 8 => v = .bool true
  | 9 => v = .bool true
  | 10 => v = .bool true
  | 11 => v = .pointer (some ⟨P, 0, none⟩)
  | 12 => v = .pointer (some ⟨P, 0, none⟩)
  | 13 => v = .pointer (some ⟨P, 0, none⟩)
  | 14 => v = .slice A n c
  | 15 => v = .int .i64 j
  | 16 => v = .bool true
  | 17 => v = .bool true
  | 18 => v = .bool true
  | 19 => v = .int .i64 i
  | 20 => v = .int .i64 j
  | 21 => v = .bool true
  | 22 => v = .bool true
  | 23 => v = .bool true
  | 24 => v = .pointer (some ⟨P, 0, none⟩)
  | 25 => v = .pointer (some ⟨P, 0, none⟩)
  | 26 => v = .pointer (some ⟨P, 0, none⟩)
  | 27 => v = .slice A n c
  | 28 => v = .int .i64 i
  | 29 => v = .pointer (some ⟨b, o + i9 * 17, none⟩)
  | 30 => v = .pointer (some ⟨b, o + i9 * 17, none⟩)
  | 31 => v = .agg #[.string x.name, .int .i64 x.epoch, .string x.ver, .string x.rel, .int .u8 x.arch, .string x.vendor, .slice x.provA x.prov.length x.provC, .slice x.reqA x.req.length x.reqC, .slice x.conA x.con.length x.conC, .slice x.obsA x.obs.length x.obsC, .slice x.rcmA x.rcm.length x.rcmC, .slice x.supA x.sup.length x.supC, .slice x.sugA x.sug.length x.sugC, .slice x.enhA x.enh.length x.enhC, .slice x.filesA x.files.length x.filesC]
  | 32 => v = .pointer (some ⟨P, 0, none⟩)
  | 33 => v = .pointer (some ⟨P, 0, none⟩)
  | 34 => v = .pointer (some ⟨P, 0, none⟩)
  | 35 => v = .slice A n c
  | 36 => v = .int .i64 j
  | 37 => v = .pointer (some ⟨b, o + j9 * 17, none⟩)
  | 38 => v = .pointer (some ⟨b, o + j9 * 17, none⟩)
  | 39 => v = .agg #[.string y.name, .int .i64 y.epoch, .string y.ver, .string y.rel, .int .u8 y.arch, .string y.vendor, .slice y.provA y.prov.length y.provC, .slice y.reqA y.req.length y.reqC, .slice y.conA y.con.length y.conC, .slice y.obsA y.obs.length y.obsC, .slice y.rcmA y.rcm.length y.rcmC, .slice y.supA y.sup.length y.supC, .slice y.sugA y.sug.length y.sugC, .slice y.enhA y.enh.length y.enhC, .slice y.filesA y.files.length y.filesC]
  | 40 => v = .bool ob
  | 41 => v = .bool ob
  | 42 => v = .bool ob
  | _ => False
theorem pgD_mono (P n c : Nat) (A : Option Addr) (i j : Int) (b o i9 j9 : Nat) (x y : Pk) (ob : Bool) : ∀ k v w w', pgD P n c A i j b o i9 j9 x y ob k v w → Below w.heap.size w w' → pgD P n c A i j b o i9 j9 x y ob k v w' := by
  intro k v w w' h hb
  match k, h with
  | 0, h => exact h
  | 1, h => exact h
  | 2, h => exact h
  | 3, h => exact h
  | 4, h => exact h
  | 5, h => exact h
  | 6, h => exact h
  | 7, h => exact h
  | 8, h => exact h
  | 9, h => exact h
  | 10, h => exact h
  | 11, h => exact h
  | 12, h => exact h
  | 13, h => exact h
  | 14, h => exact h
  | 15, h => exact h
  | 16, h => exact h
  | 17, h => exact h
  | 18, h => exact h
  | 19, h => exact h
  | 20, h => exact h
  | 21, h => exact h
  | 22, h => exact h
  | 23, h => exact h
  | 24, h => exact h
  | 25, h => exact h
  | 26, h => exact h
  | 27, h => exact h
  | 28, h => exact h
  | 29, h => exact h
  | 30, h => exact h
  | 31, h => exact h
  | 32, h => exact h
  | 33, h => exact h
  | 34, h => exact h
  | 35, h => exact h
  | 36, h => exact h
  | 37, h => exact h
  | 38, h => exact h
  | 39, h => exact h
  | 40, h => exact h
  | 41, h => exact h
  | 42, h => exact h
  | (k + 43), h => exact h.elim
set_option maxRecDepth 100000 in
set_option maxHeartbeats 16000000 in
theorem poolobs_any {P : Nat} {I : Int} {L : List Pr} {w : World} (hp : Pool P I L w) (i j : Int) (hn : L.length ≤ 1000000) : Calls Tryz.prog 133 #[.pointer (some ⟨P, 0, none⟩), .int .i64 i, .int .i64 j] w fun e w' => e = .returned (.bool (obsP L i j)) ∧ Below w.heap.size w w' := by
  have HP := Lib.hid hp
  have IS := Lib.hid (fun (i : Int) A c (W : World) => prows_is A c i L.length W hn)
  obtain ⟨A, c, h0, hr⟩ := hp.at_.row
  have HRD := Lib.hid hr
  have OB := Lib.hid (fun (k m : Nat) (hk : k < L.length) (hm : m < L.length) W (hb : Below w.heap.size w W) => pool_obs hp hk hm W hb)
  have hlt := hp.at_.lt
  obtain ⟨n, hn9⟩ : ∃ n, n = L.length := ⟨_, rfl⟩
  rw [← hn9] at h0 IS
  have HN := Lib.hid hn9
  clear hp hr hn hn9
  have C0 := Lib.hid h0
  have HLT := Lib.hid hlt
  clear h0 hlt
  by_cases q1 : 0 ≤ i ∧ i < (n : Int)
  rotate_left
  · have F1 := Lib.hid (show decide (0 ≤ i ∧ i < (n : Int)) = false from decide_eq_false q1)
    have ER := Lib.hid (show obsP L i j = false by unfold obsP; rw [← HN.out, decide_eq_false q1]; rfl)
    clear q1
    rw [ER.out]
    go_enter Tryz.func133, Tryz.ntmps133
    go_wp2_with fail
    refine wp_region_vals (PP := pgA P n c A i j) rfl (by kernel_rfl) (by decide) (pgA_mono P n c A i j) (fun i => if i = 42 then .bool false else undef) (by simp [fillV, put_someT, setIfInBounds_toArray, set_cons_zero, set_cons_succ]) ?_ ?_
    · intro i o vs W hi ho he hBW K hK
      simp only [fillV, put_someT, setIfInBounds_toArray, set_cons_zero, set_cons_succ] at hK ⊢
      have BW := Lib.hid hBW
      have C0W := Lib.hid ((hBW.cell (p := ⟨P, 0, none⟩) HLT.out).trans C0.out)
      obtain rfl | rfl | rfl | rfl | rfl | rfl | rfl | rfl | rfl | rfl | rfl | rfl | rfl | rfl | rfl | rfl | rfl | rfl | rfl | rfl | rfl | rfl | rfl | rfl | rfl | rfl | rfl | rfl | rfl | rfl | rfl | rfl | rfl | rfl | rfl | rfl | rfl | rfl | rfl | rfl | rfl | rfl | rfl := (show i = 0 ∨ i = 1 ∨ i = 2 ∨ i = 3 ∨ i = 4 ∨ i = 5 ∨ i = 6 ∨ i = 7 ∨ i = 8 ∨ i = 9 ∨ i = 10 ∨ i = 11 ∨ i = 12 ∨ i = 13 ∨ i = 14 ∨ i = 15 ∨ i = 16 ∨ i = 17 ∨ i = 18 ∨ i = 19 ∨ i = 20 ∨ i = 21 ∨ i = 22 ∨ i = 23 ∨ i = 24 ∨ i = 25 ∨ i = 26 ∨ i = 27 ∨ i = 28 ∨ i = 29 ∨ i = 30 ∨ i = 31 ∨ i = 32 ∨ i = 33 ∨ i = 34 ∨ i = 35 ∨ i = 36 ∨ i = 37 ∨ i = 38 ∨ i = 39 ∨ i = 40 ∨ i = 41 ∨ i = 42 by exact (by have : i < 43 := hi; omega))
      · simp only [getElem?_toArray, getElem?_cons_zero, getElem?_cons_succ, Option.some.injEq] at ho
        subst ho
        rw [if_pos (by rfl)]
        simp only [put_someT, setIfInBounds_toArray, set_cons_zero, set_cons_succ] at hK
        have HK := Lib.hid hK
        clear hK he hi hBW
        go_simp
        exact HK.out _ _ (by first | rfl | simp [pgA]) (Below.refl _ _)
      · simp only [getElem?_toArray, getElem?_cons_zero, getElem?_cons_succ, Option.some.injEq] at ho
        subst ho
        have e0 : vs 0 = .pointer (some ⟨P, 0, none⟩) := (he ⟨0, .data⟩ (by simp) rfl : pgA P n c A i j 0 (vs 0) W)
        rw [e0] at hK ⊢
        rw [if_pos (by rfl)]
        simp only [put_someT, setIfInBounds_toArray, set_cons_zero, set_cons_succ] at hK
        have HK := Lib.hid hK
        clear hK he hi hBW
        go_simp
        exact HK.out _ _ rfl (Below.refl _ _)
      · simp only [getElem?_toArray, getElem?_cons_zero, getElem?_cons_succ, Option.some.injEq] at ho
        subst ho
        have e1 : vs 1 = .bool true := (he ⟨1, .data⟩ (by simp) rfl : pgA P n c A i j 1 (vs 1) W)
        rw [e1] at hK ⊢
        rw [if_pos (by rfl)]
        simp only [put_someT, setIfInBounds_toArray, set_cons_zero, set_cons_succ] at hK
        have HK := Lib.hid hK
        clear hK he hi hBW
        go_simp
        exact HK.out _ _ (by first | rfl | simp [pgA]) (Below.refl _ _)
      · simp only [getElem?_toArray, getElem?_cons_zero, getElem?_cons_succ, Option.some.injEq] at ho
        subst ho
        have e2 : vs 2 = .bool true := (he ⟨2, .guard⟩ (by simp) rfl : pgA P n c A i j 2 (vs 2) W)
        rw [e2] at hK ⊢
        rw [if_pos (by rfl)]
        simp only [put_someT, setIfInBounds_toArray, set_cons_zero, set_cons_succ] at hK
        have HK := Lib.hid hK
        clear hK he hi hBW
        go_simp
        exact HK.out _ _ (by first | rfl | simp [pgA]) (Below.refl _ _)
      · simp only [getElem?_toArray, getElem?_cons_zero, getElem?_cons_succ, Option.some.injEq] at ho
        subst ho
        have e3 : vs 3 = .pointer (some ⟨P, 0, none⟩) := (he ⟨3, .data⟩ (by simp) rfl : pgA P n c A i j 3 (vs 3) W)
        rw [e3] at hK ⊢
        have e2 : vs 2 = .bool true := (he ⟨2, .guard⟩ (by simp) rfl : pgA P n c A i j 2 (vs 2) W)
        rw [e2] at hK ⊢
        rw [if_pos (by rfl)]
        simp only [put_someT, setIfInBounds_toArray, set_cons_zero, set_cons_succ] at hK
        have HK := Lib.hid hK
        clear hK he hi hBW
        go_simp
        exact HK.out _ _ (by first | rfl | simp [pgA]) (Below.refl _ _)
      · simp only [getElem?_toArray, getElem?_cons_zero, getElem?_cons_succ, Option.some.injEq] at ho
        subst ho
        have e4 : vs 4 = .pointer (some ⟨P, 0, none⟩) := (he ⟨4, .data⟩ (by simp) rfl : pgA P n c A i j 4 (vs 4) W)
        rw [e4] at hK ⊢
        have e2 : vs 2 = .bool true := (he ⟨2, .guard⟩ (by simp) rfl : pgA P n c A i j 2 (vs 2) W)
        rw [e2] at hK ⊢
        rw [if_pos (by rfl)]
        simp only [put_someT, setIfInBounds_toArray, set_cons_zero, set_cons_succ] at hK
        have HK := Lib.hid hK
        clear hK he hi hBW
        go_simp
        exact HK.out _ _ (by first | rfl | simp [pgA]) (Below.refl _ _)
      · simp only [getElem?_toArray, getElem?_cons_zero, getElem?_cons_succ, Option.some.injEq] at ho
        subst ho
        have e5 : vs 5 = .pointer (some ⟨P, 0, none⟩) := (he ⟨5, .data⟩ (by simp) rfl : pgA P n c A i j 5 (vs 5) W)
        rw [e5] at hK ⊢
        have e2 : vs 2 = .bool true := (he ⟨2, .guard⟩ (by simp) rfl : pgA P n c A i j 2 (vs 2) W)
        rw [e2] at hK ⊢
        rw [if_pos (by rfl)]
        simp only [put_someT, setIfInBounds_toArray, set_cons_zero, set_cons_succ] at hK
        have HK := Lib.hid hK
        clear hK he hi hBW
        have c0 := C0W.out
        go_simp
        exact HK.out _ _ rfl (Below.refl _ _)
      · simp only [getElem?_toArray, getElem?_cons_zero, getElem?_cons_succ, Option.some.injEq] at ho
        subst ho
        have e2 : vs 2 = .bool true := (he ⟨2, .guard⟩ (by simp) rfl : pgA P n c A i j 2 (vs 2) W)
        rw [e2] at hK ⊢
        rw [if_pos (by rfl)]
        simp only [put_someT, setIfInBounds_toArray, set_cons_zero, set_cons_succ] at hK
        have HK := Lib.hid hK
        clear hK he hi hBW
        go_simp
        exact HK.out _ _ (by first | rfl | simp [pgA]) (Below.refl _ _)
      · simp only [getElem?_toArray, getElem?_cons_zero, getElem?_cons_succ, Option.some.injEq] at ho
        subst ho
        have e6 : vs 6 = .slice A n c := (he ⟨6, .data⟩ (by simp) rfl : pgA P n c A i j 6 (vs 6) W)
        rw [e6] at hK ⊢
        have e7 : vs 7 = .int .i64 i := (he ⟨7, .data⟩ (by simp) rfl : pgA P n c A i j 7 (vs 7) W)
        rw [e7] at hK ⊢
        have e2 : vs 2 = .bool true := (he ⟨2, .guard⟩ (by simp) rfl : pgA P n c A i j 2 (vs 2) W)
        rw [e2] at hK ⊢
        rw [if_pos (by rfl)]
        simp only [put_someT, setIfInBounds_toArray, set_cons_zero, set_cons_succ] at hK
        have HK := Lib.hid hK
        clear hK he hi hBW
        go_simp
        go_at_call 102
        refine (IS.out i _ c W).mono ?_
        rintro en w9 ⟨rfl, h⟩
        rw [F1.out]
        go_simp
        exact HK.out _ _ rfl h
      · simp only [getElem?_toArray, getElem?_cons_zero, getElem?_cons_succ, Option.some.injEq] at ho
        subst ho
        have e2 : vs 2 = .bool true := (he ⟨2, .data⟩ (by simp) rfl : pgA P n c A i j 2 (vs 2) W)
        rw [e2] at hK ⊢
        have e8 : vs 8 = .bool false := (he ⟨8, .data⟩ (by simp) rfl : pgA P n c A i j 8 (vs 8) W)
        rw [e8] at hK ⊢
        rw [if_pos (by rfl)]
        simp only [put_someT, setIfInBounds_toArray, set_cons_zero, set_cons_succ] at hK
        have HK := Lib.hid hK
        clear hK he hi hBW
        go_simp
        exact HK.out _ _ (by first | rfl | simp [pgA]) (Below.refl _ _)
      · simp only [getElem?_toArray, getElem?_cons_zero, getElem?_cons_succ, Option.some.injEq] at ho
        subst ho
        have e9 : vs 9 = .bool false := (he ⟨9, .data⟩ (by simp) rfl : pgA P n c A i j 9 (vs 9) W)
        rw [e9] at hK ⊢
        rw [if_pos (by rfl)]
        simp only [put_someT, setIfInBounds_toArray, set_cons_zero, set_cons_succ] at hK
        have HK := Lib.hid hK
        clear hK he hi hBW
        go_simp
        exact HK.out _ _ (by first | rfl | simp [pgA]) (Below.refl _ _)
      · simp only [getElem?_toArray, getElem?_cons_zero, getElem?_cons_succ, Option.some.injEq] at ho
        subst ho
        have e10 : vs 10 = .bool false := (he ⟨10, .guard⟩ (by simp) rfl : pgA P n c A i j 10 (vs 10) W)
        rw [e10] at hK ⊢
        rw [if_neg (by exact Bool.false_ne_true)]
        exact hK _ _ rfl (Below.refl _ _)
      · simp only [getElem?_toArray, getElem?_cons_zero, getElem?_cons_succ, Option.some.injEq] at ho
        subst ho
        have e11 : vs 11 = undef := (he ⟨11, .data⟩ (by simp) rfl : pgA P n c A i j 11 (vs 11) W)
        rw [e11] at hK ⊢
        have e10 : vs 10 = .bool false := (he ⟨10, .guard⟩ (by simp) rfl : pgA P n c A i j 10 (vs 10) W)
        rw [e10] at hK ⊢
        rw [if_neg (by exact Bool.false_ne_true)]
        exact hK _ _ rfl (Below.refl _ _)
      · simp only [getElem?_toArray, getElem?_cons_zero, getElem?_cons_succ, Option.some.injEq] at ho
        subst ho
        have e12 : vs 12 = undef := (he ⟨12, .data⟩ (by simp) rfl : pgA P n c A i j 12 (vs 12) W)
        rw [e12] at hK ⊢
        have e10 : vs 10 = .bool false := (he ⟨10, .guard⟩ (by simp) rfl : pgA P n c A i j 10 (vs 10) W)
        rw [e10] at hK ⊢
        rw [if_neg (by exact Bool.false_ne_true)]
        exact hK _ _ rfl (Below.refl _ _)
      · simp only [getElem?_toArray, getElem?_cons_zero, getElem?_cons_succ, Option.some.injEq] at ho
        subst ho
        have e13 : vs 13 = undef := (he ⟨13, .data⟩ (by simp) rfl : pgA P n c A i j 13 (vs 13) W)
        rw [e13] at hK ⊢
        have e10 : vs 10 = .bool false := (he ⟨10, .guard⟩ (by simp) rfl : pgA P n c A i j 10 (vs 10) W)
        rw [e10] at hK ⊢
        rw [if_neg (by exact Bool.false_ne_true)]
        exact hK _ _ rfl (Below.refl _ _)
      · simp only [getElem?_toArray, getElem?_cons_zero, getElem?_cons_succ, Option.some.injEq] at ho
        subst ho
        have e10 : vs 10 = .bool false := (he ⟨10, .guard⟩ (by simp) rfl : pgA P n c A i j 10 (vs 10) W)
        rw [e10] at hK ⊢
        rw [if_neg (by exact Bool.false_ne_true)]
        exact hK _ _ rfl (Below.refl _ _)
      · simp only [getElem?_toArray, getElem?_cons_zero, getElem?_cons_succ, Option.some.injEq] at ho
        subst ho
        have e14 : vs 14 = undef := (he ⟨14, .data⟩ (by simp) rfl : pgA P n c A i j 14 (vs 14) W)
        rw [e14] at hK ⊢
        have e15 : vs 15 = undef := (he ⟨15, .data⟩ (by simp) rfl : pgA P n c A i j 15 (vs 15) W)
        rw [e15] at hK ⊢
        have e10 : vs 10 = .bool false := (he ⟨10, .guard⟩ (by simp) rfl : pgA P n c A i j 10 (vs 10) W)
        rw [e10] at hK ⊢
        rw [if_neg (by exact Bool.false_ne_true)]
        exact hK _ _ rfl (Below.refl _ _)
      · simp only [getElem?_toArray, getElem?_cons_zero, getElem?_cons_succ, Option.some.injEq] at ho
        subst ho
        have e10 : vs 10 = .bool false := (he ⟨10, .data⟩ (by simp) rfl : pgA P n c A i j 10 (vs 10) W)
        rw [e10] at hK ⊢
        have e16 : vs 16 = undef := (he ⟨16, .data⟩ (by simp) rfl : pgA P n c A i j 16 (vs 16) W)
        rw [e16] at hK ⊢
        rw [if_pos (by rfl)]
        simp only [put_someT, setIfInBounds_toArray, set_cons_zero, set_cons_succ] at hK
        have HK := Lib.hid hK
        clear hK he hi hBW
        go_simp
        exact HK.out _ _ (by first | rfl | simp [pgA]) (Below.refl _ _)
      · simp only [getElem?_toArray, getElem?_cons_zero, getElem?_cons_succ, Option.some.injEq] at ho
        subst ho
        have e17 : vs 17 = .bool false := (he ⟨17, .data⟩ (by simp) rfl : pgA P n c A i j 17 (vs 17) W)
        rw [e17] at hK ⊢
        rw [if_pos (by rfl)]
        simp only [put_someT, setIfInBounds_toArray, set_cons_zero, set_cons_succ] at hK
        have HK := Lib.hid hK
        clear hK he hi hBW
        go_simp
        exact HK.out _ _ (by first | rfl | simp [pgA]) (Below.refl _ _)
      · simp only [getElem?_toArray, getElem?_cons_zero, getElem?_cons_succ, Option.some.injEq] at ho
        subst ho
        have e18 : vs 18 = .bool false := (he ⟨18, .guard⟩ (by simp) rfl : pgA P n c A i j 18 (vs 18) W)
        rw [e18] at hK ⊢
        rw [if_neg (by exact Bool.false_ne_true)]
        exact hK _ _ rfl (Below.refl _ _)
      · simp only [getElem?_toArray, getElem?_cons_zero, getElem?_cons_succ, Option.some.injEq] at ho
        subst ho
        have e18 : vs 18 = .bool false := (he ⟨18, .guard⟩ (by simp) rfl : pgA P n c A i j 18 (vs 18) W)
        rw [e18] at hK ⊢
        rw [if_neg (by exact Bool.false_ne_true)]
        exact hK _ _ rfl (Below.refl _ _)
      · simp only [getElem?_toArray, getElem?_cons_zero, getElem?_cons_succ, Option.some.injEq] at ho
        subst ho
        have e19 : vs 19 = undef := (he ⟨19, .data⟩ (by simp) rfl : pgA P n c A i j 19 (vs 19) W)
        rw [e19] at hK ⊢
        have e20 : vs 20 = undef := (he ⟨20, .data⟩ (by simp) rfl : pgA P n c A i j 20 (vs 20) W)
        rw [e20] at hK ⊢
        have e18 : vs 18 = .bool false := (he ⟨18, .guard⟩ (by simp) rfl : pgA P n c A i j 18 (vs 18) W)
        rw [e18] at hK ⊢
        rw [if_neg (by exact Bool.false_ne_true)]
        exact hK _ _ rfl (Below.refl _ _)
      · simp only [getElem?_toArray, getElem?_cons_zero, getElem?_cons_succ, Option.some.injEq] at ho
        subst ho
        have e18 : vs 18 = .bool false := (he ⟨18, .data⟩ (by simp) rfl : pgA P n c A i j 18 (vs 18) W)
        rw [e18] at hK ⊢
        have e21 : vs 21 = undef := (he ⟨21, .data⟩ (by simp) rfl : pgA P n c A i j 21 (vs 21) W)
        rw [e21] at hK ⊢
        rw [if_pos (by rfl)]
        simp only [put_someT, setIfInBounds_toArray, set_cons_zero, set_cons_succ] at hK
        have HK := Lib.hid hK
        clear hK he hi hBW
        go_simp
        exact HK.out _ _ (by first | rfl | simp [pgA]) (Below.refl _ _)
      · simp only [getElem?_toArray, getElem?_cons_zero, getElem?_cons_succ, Option.some.injEq] at ho
        subst ho
        have e22 : vs 22 = .bool false := (he ⟨22, .data⟩ (by simp) rfl : pgA P n c A i j 22 (vs 22) W)
        rw [e22] at hK ⊢
        rw [if_pos (by rfl)]
        simp only [put_someT, setIfInBounds_toArray, set_cons_zero, set_cons_succ] at hK
        have HK := Lib.hid hK
        clear hK he hi hBW
        go_simp
        exact HK.out _ _ (by first | rfl | simp [pgA]) (Below.refl _ _)
      · simp only [getElem?_toArray, getElem?_cons_zero, getElem?_cons_succ, Option.some.injEq] at ho
        subst ho
        have e23 : vs 23 = .bool false := (he ⟨23, .guard⟩ (by simp) rfl : pgA P n c A i j 23 (vs 23) W)
        rw [e23] at hK ⊢
        rw [if_neg (by exact Bool.false_ne_true)]
        exact hK _ _ rfl (Below.refl _ _)
      · simp only [getElem?_toArray, getElem?_cons_zero, getElem?_cons_succ, Option.some.injEq] at ho
        subst ho
        have e24 : vs 24 = undef := (he ⟨24, .data⟩ (by simp) rfl : pgA P n c A i j 24 (vs 24) W)
        rw [e24] at hK ⊢
        have e23 : vs 23 = .bool false := (he ⟨23, .guard⟩ (by simp) rfl : pgA P n c A i j 23 (vs 23) W)
        rw [e23] at hK ⊢
        rw [if_neg (by exact Bool.false_ne_true)]
        exact hK _ _ rfl (Below.refl _ _)
      · simp only [getElem?_toArray, getElem?_cons_zero, getElem?_cons_succ, Option.some.injEq] at ho
        subst ho
        have e25 : vs 25 = undef := (he ⟨25, .data⟩ (by simp) rfl : pgA P n c A i j 25 (vs 25) W)
        rw [e25] at hK ⊢
        have e23 : vs 23 = .bool false := (he ⟨23, .guard⟩ (by simp) rfl : pgA P n c A i j 23 (vs 23) W)
        rw [e23] at hK ⊢
        rw [if_neg (by exact Bool.false_ne_true)]
        exact hK _ _ rfl (Below.refl _ _)
      · simp only [getElem?_toArray, getElem?_cons_zero, getElem?_cons_succ, Option.some.injEq] at ho
        subst ho
        have e26 : vs 26 = undef := (he ⟨26, .data⟩ (by simp) rfl : pgA P n c A i j 26 (vs 26) W)
        rw [e26] at hK ⊢
        have e23 : vs 23 = .bool false := (he ⟨23, .guard⟩ (by simp) rfl : pgA P n c A i j 23 (vs 23) W)
        rw [e23] at hK ⊢
        rw [if_neg (by exact Bool.false_ne_true)]
        exact hK _ _ rfl (Below.refl _ _)
      · simp only [getElem?_toArray, getElem?_cons_zero, getElem?_cons_succ, Option.some.injEq] at ho
        subst ho
        have e23 : vs 23 = .bool false := (he ⟨23, .guard⟩ (by simp) rfl : pgA P n c A i j 23 (vs 23) W)
        rw [e23] at hK ⊢
        rw [if_neg (by exact Bool.false_ne_true)]
        exact hK _ _ rfl (Below.refl _ _)
      · simp only [getElem?_toArray, getElem?_cons_zero, getElem?_cons_succ, Option.some.injEq] at ho
        subst ho
        have e27 : vs 27 = undef := (he ⟨27, .data⟩ (by simp) rfl : pgA P n c A i j 27 (vs 27) W)
        rw [e27] at hK ⊢
        have e28 : vs 28 = undef := (he ⟨28, .data⟩ (by simp) rfl : pgA P n c A i j 28 (vs 28) W)
        rw [e28] at hK ⊢
        have e23 : vs 23 = .bool false := (he ⟨23, .guard⟩ (by simp) rfl : pgA P n c A i j 23 (vs 23) W)
        rw [e23] at hK ⊢
        rw [if_neg (by exact Bool.false_ne_true)]
        exact hK _ _ rfl (Below.refl _ _)
      · simp only [getElem?_toArray, getElem?_cons_zero, getElem?_cons_succ, Option.some.injEq] at ho
        subst ho
        have e29 : vs 29 = undef := (he ⟨29, .data⟩ (by simp) rfl : pgA P n c A i j 29 (vs 29) W)
        rw [e29] at hK ⊢
        have e23 : vs 23 = .bool false := (he ⟨23, .guard⟩ (by simp) rfl : pgA P n c A i j 23 (vs 23) W)
        rw [e23] at hK ⊢
        rw [if_neg (by exact Bool.false_ne_true)]
        exact hK _ _ rfl (Below.refl _ _)
      · simp only [getElem?_toArray, getElem?_cons_zero, getElem?_cons_succ, Option.some.injEq] at ho
        subst ho
        have e30 : vs 30 = undef := (he ⟨30, .data⟩ (by simp) rfl : pgA P n c A i j 30 (vs 30) W)
        rw [e30] at hK ⊢
        have e23 : vs 23 = .bool false := (he ⟨23, .guard⟩ (by simp) rfl : pgA P n c A i j 23 (vs 23) W)
        rw [e23] at hK ⊢
        rw [if_neg (by exact Bool.false_ne_true)]
        exact hK _ _ rfl (Below.refl _ _)
      · simp only [getElem?_toArray, getElem?_cons_zero, getElem?_cons_succ, Option.some.injEq] at ho
        subst ho
        have e23 : vs 23 = .bool false := (he ⟨23, .guard⟩ (by simp) rfl : pgA P n c A i j 23 (vs 23) W)
        rw [e23] at hK ⊢
        rw [if_neg (by exact Bool.false_ne_true)]
        exact hK _ _ rfl (Below.refl _ _)
      · simp only [getElem?_toArray, getElem?_cons_zero, getElem?_cons_succ, Option.some.injEq] at ho
        subst ho
        have e32 : vs 32 = undef := (he ⟨32, .data⟩ (by simp) rfl : pgA P n c A i j 32 (vs 32) W)
        rw [e32] at hK ⊢
        have e23 : vs 23 = .bool false := (he ⟨23, .guard⟩ (by simp) rfl : pgA P n c A i j 23 (vs 23) W)
        rw [e23] at hK ⊢
        rw [if_neg (by exact Bool.false_ne_true)]
        exact hK _ _ rfl (Below.refl _ _)
      · simp only [getElem?_toArray, getElem?_cons_zero, getElem?_cons_succ, Option.some.injEq] at ho
        subst ho
        have e33 : vs 33 = undef := (he ⟨33, .data⟩ (by simp) rfl : pgA P n c A i j 33 (vs 33) W)
        rw [e33] at hK ⊢
        have e23 : vs 23 = .bool false := (he ⟨23, .guard⟩ (by simp) rfl : pgA P n c A i j 23 (vs 23) W)
        rw [e23] at hK ⊢
        rw [if_neg (by exact Bool.false_ne_true)]
        exact hK _ _ rfl (Below.refl _ _)
      · simp only [getElem?_toArray, getElem?_cons_zero, getElem?_cons_succ, Option.some.injEq] at ho
        subst ho
        have e34 : vs 34 = undef := (he ⟨34, .data⟩ (by simp) rfl : pgA P n c A i j 34 (vs 34) W)
        rw [e34] at hK ⊢
        have e23 : vs 23 = .bool false := (he ⟨23, .guard⟩ (by simp) rfl : pgA P n c A i j 23 (vs 23) W)
        rw [e23] at hK ⊢
        rw [if_neg (by exact Bool.false_ne_true)]
        exact hK _ _ rfl (Below.refl _ _)
      · simp only [getElem?_toArray, getElem?_cons_zero, getElem?_cons_succ, Option.some.injEq] at ho
        subst ho
        have e23 : vs 23 = .bool false := (he ⟨23, .guard⟩ (by simp) rfl : pgA P n c A i j 23 (vs 23) W)
        rw [e23] at hK ⊢
        rw [if_neg (by exact Bool.false_ne_true)]
        exact hK _ _ rfl (Below.refl _ _)
      · simp only [getElem?_toArray, getElem?_cons_zero, getElem?_cons_succ, Option.some.injEq] at ho
        subst ho
        have e35 : vs 35 = undef := (he ⟨35, .data⟩ (by simp) rfl : pgA P n c A i j 35 (vs 35) W)
        rw [e35] at hK ⊢
        have e36 : vs 36 = undef := (he ⟨36, .data⟩ (by simp) rfl : pgA P n c A i j 36 (vs 36) W)
        rw [e36] at hK ⊢
        have e23 : vs 23 = .bool false := (he ⟨23, .guard⟩ (by simp) rfl : pgA P n c A i j 23 (vs 23) W)
        rw [e23] at hK ⊢
        rw [if_neg (by exact Bool.false_ne_true)]
        exact hK _ _ rfl (Below.refl _ _)
      · simp only [getElem?_toArray, getElem?_cons_zero, getElem?_cons_succ, Option.some.injEq] at ho
        subst ho
        have e37 : vs 37 = undef := (he ⟨37, .data⟩ (by simp) rfl : pgA P n c A i j 37 (vs 37) W)
        rw [e37] at hK ⊢
        have e23 : vs 23 = .bool false := (he ⟨23, .guard⟩ (by simp) rfl : pgA P n c A i j 23 (vs 23) W)
        rw [e23] at hK ⊢
        rw [if_neg (by exact Bool.false_ne_true)]
        exact hK _ _ rfl (Below.refl _ _)
      · simp only [getElem?_toArray, getElem?_cons_zero, getElem?_cons_succ, Option.some.injEq] at ho
        subst ho
        have e38 : vs 38 = undef := (he ⟨38, .data⟩ (by simp) rfl : pgA P n c A i j 38 (vs 38) W)
        rw [e38] at hK ⊢
        have e23 : vs 23 = .bool false := (he ⟨23, .guard⟩ (by simp) rfl : pgA P n c A i j 23 (vs 23) W)
        rw [e23] at hK ⊢
        rw [if_neg (by exact Bool.false_ne_true)]
        exact hK _ _ rfl (Below.refl _ _)
      · simp only [getElem?_toArray, getElem?_cons_zero, getElem?_cons_succ, Option.some.injEq] at ho
        subst ho
        have e31 : vs 31 = undef := (he ⟨31, .data⟩ (by simp) rfl : pgA P n c A i j 31 (vs 31) W)
        rw [e31] at hK ⊢
        have e39 : vs 39 = undef := (he ⟨39, .data⟩ (by simp) rfl : pgA P n c A i j 39 (vs 39) W)
        rw [e39] at hK ⊢
        have e23 : vs 23 = .bool false := (he ⟨23, .guard⟩ (by simp) rfl : pgA P n c A i j 23 (vs 23) W)
        rw [e23] at hK ⊢
        rw [if_neg (by exact Bool.false_ne_true)]
        exact hK _ _ rfl (Below.refl _ _)
      · simp only [getElem?_toArray, getElem?_cons_zero, getElem?_cons_succ, Option.some.injEq] at ho
        subst ho
        have e23 : vs 23 = .bool false := (he ⟨23, .data⟩ (by simp) rfl : pgA P n c A i j 23 (vs 23) W)
        rw [e23] at hK ⊢
        have e40 : vs 40 = undef := (he ⟨40, .data⟩ (by simp) rfl : pgA P n c A i j 40 (vs 40) W)
        rw [e40] at hK ⊢
        rw [if_pos (by rfl)]
        simp only [put_someT, setIfInBounds_toArray, set_cons_zero, set_cons_succ] at hK
        have HK := Lib.hid hK
        clear hK he hi hBW
        go_simp
        exact HK.out _ _ (by first | rfl | simp [pgA]) (Below.refl _ _)
      · simp only [getElem?_toArray, getElem?_cons_zero, getElem?_cons_succ, Option.some.injEq] at ho
        subst ho
        have e41 : vs 41 = .bool false := (he ⟨41, .data⟩ (by simp) rfl : pgA P n c A i j 41 (vs 41) W)
        rw [e41] at hK ⊢
        rw [if_pos (by rfl)]
        simp only [put_someT, setIfInBounds_toArray, set_cons_zero, set_cons_succ] at hK
        have HK := Lib.hid hK
        clear hK he hi hBW
        go_simp
        exact HK.out _ _ (by first | rfl | simp [pgA]) (Below.refl _ _)
    · intro vs W hall hBW
      have e42 : vs 42 = .bool false := (hall 42 (by decide) : pgA P n c A i j 42 (vs 42) W)
      simp only [fillV, put_someT, setIfInBounds_toArray, set_cons_zero, set_cons_succ]
      rw [e42]
      have BW := Lib.hid hBW
      clear hall hBW
      go_wp2_with fail
      go_ret
      exact ⟨rfl, BW.out⟩
  by_cases q2 : 0 ≤ j ∧ j < (n : Int)
  rotate_left
  · have F1 := Lib.hid (show decide (0 ≤ i ∧ i < (n : Int)) = true from decide_eq_true q1)
    have F2 := Lib.hid (show decide (0 ≤ j ∧ j < (n : Int)) = false from decide_eq_false q2)
    have ER := Lib.hid (show obsP L i j = false by unfold obsP; rw [← HN.out, decide_eq_true q1, decide_eq_false q2]; rfl)
    clear q1 q2
    rw [ER.out]
    go_enter Tryz.func133, Tryz.ntmps133
    go_wp2_with fail
    refine wp_region_vals (PP := pgB P n c A i j) rfl (by kernel_rfl) (by decide) (pgB_mono P n c A i j) (fun i => if i = 42 then .bool false else undef) (by simp [fillV, put_someT, setIfInBounds_toArray, set_cons_zero, set_cons_succ]) ?_ ?_
    · intro i o vs W hi ho he hBW K hK
      simp only [fillV, put_someT, setIfInBounds_toArray, set_cons_zero, set_cons_succ] at hK ⊢
      have BW := Lib.hid hBW
      have C0W := Lib.hid ((hBW.cell (p := ⟨P, 0, none⟩) HLT.out).trans C0.out)
      obtain rfl | rfl | rfl | rfl | rfl | rfl | rfl | rfl | rfl | rfl | rfl | rfl | rfl | rfl | rfl | rfl | rfl | rfl | rfl | rfl | rfl | rfl | rfl | rfl | rfl | rfl | rfl | rfl | rfl | rfl | rfl | rfl | rfl | rfl | rfl | rfl | rfl | rfl | rfl | rfl | rfl | rfl | rfl := (show i = 0 ∨ i = 1 ∨ i = 2 ∨ i = 3 ∨ i = 4 ∨ i = 5 ∨ i = 6 ∨ i = 7 ∨ i = 8 ∨ i = 9 ∨ i = 10 ∨ i = 11 ∨ i = 12 ∨ i = 13 ∨ i = 14 ∨ i = 15 ∨ i = 16 ∨ i = 17 ∨ i = 18 ∨ i = 19 ∨ i = 20 ∨ i = 21 ∨ i = 22 ∨ i = 23 ∨ i = 24 ∨ i = 25 ∨ i = 26 ∨ i = 27 ∨ i = 28 ∨ i = 29 ∨ i = 30 ∨ i = 31 ∨ i = 32 ∨ i = 33 ∨ i = 34 ∨ i = 35 ∨ i = 36 ∨ i = 37 ∨ i = 38 ∨ i = 39 ∨ i = 40 ∨ i = 41 ∨ i = 42 by exact (by have : i < 43 := hi; omega))
      · simp only [getElem?_toArray, getElem?_cons_zero, getElem?_cons_succ, Option.some.injEq] at ho
        subst ho
        rw [if_pos (by rfl)]
        simp only [put_someT, setIfInBounds_toArray, set_cons_zero, set_cons_succ] at hK
        have HK := Lib.hid hK
        clear hK he hi hBW
        go_simp
        exact HK.out _ _ (by first | rfl | simp [pgB]) (Below.refl _ _)
      · simp only [getElem?_toArray, getElem?_cons_zero, getElem?_cons_succ, Option.some.injEq] at ho
        subst ho
        have e0 : vs 0 = .pointer (some ⟨P, 0, none⟩) := (he ⟨0, .data⟩ (by simp) rfl : pgB P n c A i j 0 (vs 0) W)
        rw [e0] at hK ⊢
        rw [if_pos (by rfl)]
        simp only [put_someT, setIfInBounds_toArray, set_cons_zero, set_cons_succ] at hK
        have HK := Lib.hid hK
        clear hK he hi hBW
        go_simp
        exact HK.out _ _ rfl (Below.refl _ _)
      · simp only [getElem?_toArray, getElem?_cons_zero, getElem?_cons_succ, Option.some.injEq] at ho
        subst ho
        have e1 : vs 1 = .bool true := (he ⟨1, .data⟩ (by simp) rfl : pgB P n c A i j 1 (vs 1) W)
        rw [e1] at hK ⊢
        rw [if_pos (by rfl)]
        simp only [put_someT, setIfInBounds_toArray, set_cons_zero, set_cons_succ] at hK
        have HK := Lib.hid hK
        clear hK he hi hBW
        go_simp
        exact HK.out _ _ (by first | rfl | simp [pgB]) (Below.refl _ _)
      · simp only [getElem?_toArray, getElem?_cons_zero, getElem?_cons_succ, Option.some.injEq] at ho
        subst ho
        have e2 : vs 2 = .bool true := (he ⟨2, .guard⟩ (by simp) rfl : pgB P n c A i j 2 (vs 2) W)
        rw [e2] at hK ⊢
        rw [if_pos (by rfl)]
        simp only [put_someT, setIfInBounds_toArray, set_cons_zero, set_cons_succ] at hK
        have HK := Lib.hid hK
        clear hK he hi hBW
        go_simp
        exact HK.out _ _ (by first | rfl | simp [pgB]) (Below.refl _ _)
      · simp only [getElem?_toArray, getElem?_cons_zero, getElem?_cons_succ, Option.some.injEq] at ho
        subst ho
        have e3 : vs 3 = .pointer (some ⟨P, 0, none⟩) := (he ⟨3, .data⟩ (by simp) rfl : pgB P n c A i j 3 (vs 3) W)
        rw [e3] at hK ⊢
        have e2 : vs 2 = .bool true := (he ⟨2, .guard⟩ (by simp) rfl : pgB P n c A i j 2 (vs 2) W)
        rw [e2] at hK ⊢
        rw [if_pos (by rfl)]
        simp only [put_someT, setIfInBounds_toArray, set_cons_zero, set_cons_succ] at hK
        have HK := Lib.hid hK
        clear hK he hi hBW
        go_simp
        exact HK.out _ _ (by first | rfl | simp [pgB]) (Below.refl _ _)
      · simp only [getElem?_toArray, getElem?_cons_zero, getElem?_cons_succ, Option.some.injEq] at ho
        subst ho
        have e4 : vs 4 = .pointer (some ⟨P, 0, none⟩) := (he ⟨4, .data⟩ (by simp) rfl : pgB P n c A i j 4 (vs 4) W)
        rw [e4] at hK ⊢
        have e2 : vs 2 = .bool true := (he ⟨2, .guard⟩ (by simp) rfl : pgB P n c A i j 2 (vs 2) W)
        rw [e2] at hK ⊢
        rw [if_pos (by rfl)]
        simp only [put_someT, setIfInBounds_toArray, set_cons_zero, set_cons_succ] at hK
        have HK := Lib.hid hK
        clear hK he hi hBW
        go_simp
        exact HK.out _ _ (by first | rfl | simp [pgB]) (Below.refl _ _)
      · simp only [getElem?_toArray, getElem?_cons_zero, getElem?_cons_succ, Option.some.injEq] at ho
        subst ho
        have e5 : vs 5 = .pointer (some ⟨P, 0, none⟩) := (he ⟨5, .data⟩ (by simp) rfl : pgB P n c A i j 5 (vs 5) W)
        rw [e5] at hK ⊢
        have e2 : vs 2 = .bool true := (he ⟨2, .guard⟩ (by simp) rfl : pgB P n c A i j 2 (vs 2) W)
        rw [e2] at hK ⊢
        rw [if_pos (by rfl)]
        simp only [put_someT, setIfInBounds_toArray, set_cons_zero, set_cons_succ] at hK
        have HK := Lib.hid hK
        clear hK he hi hBW
        have c0 := C0W.out
        go_simp
        exact HK.out _ _ rfl (Below.refl _ _)
      · simp only [getElem?_toArray, getElem?_cons_zero, getElem?_cons_succ, Option.some.injEq] at ho
        subst ho
        have e2 : vs 2 = .bool true := (he ⟨2, .guard⟩ (by simp) rfl : pgB P n c A i j 2 (vs 2) W)
        rw [e2] at hK ⊢
        rw [if_pos (by rfl)]
        simp only [put_someT, setIfInBounds_toArray, set_cons_zero, set_cons_succ] at hK
        have HK := Lib.hid hK
        clear hK he hi hBW
        go_simp
        exact HK.out _ _ (by first | rfl | simp [pgB]) (Below.refl _ _)
      · simp only [getElem?_toArray, getElem?_cons_zero, getElem?_cons_succ, Option.some.injEq] at ho
        subst ho
        have e6 : vs 6 = .slice A n c := (he ⟨6, .data⟩ (by simp) rfl : pgB P n c A i j 6 (vs 6) W)
        rw [e6] at hK ⊢
        have e7 : vs 7 = .int .i64 i := (he ⟨7, .data⟩ (by simp) rfl : pgB P n c A i j 7 (vs 7) W)
        rw [e7] at hK ⊢
        have e2 : vs 2 = .bool true := (he ⟨2, .guard⟩ (by simp) rfl : pgB P n c A i j 2 (vs 2) W)
        rw [e2] at hK ⊢
        rw [if_pos (by rfl)]
        simp only [put_someT, setIfInBounds_toArray, set_cons_zero, set_cons_succ] at hK
        have HK := Lib.hid hK
        clear hK he hi hBW
        go_simp
        go_at_call 102
        refine (IS.out i _ c W).mono ?_
        rintro en w9 ⟨rfl, h⟩
        rw [F1.out]
        go_simp
        exact HK.out _ _ rfl h
      · simp only [getElem?_toArray, getElem?_cons_zero, getElem?_cons_succ, Option.some.injEq] at ho
        subst ho
        have e2 : vs 2 = .bool true := (he ⟨2, .data⟩ (by simp) rfl : pgB P n c A i j 2 (vs 2) W)
        rw [e2] at hK ⊢
        have e8 : vs 8 = .bool true := (he ⟨8, .data⟩ (by simp) rfl : pgB P n c A i j 8 (vs 8) W)
        rw [e8] at hK ⊢
        rw [if_pos (by rfl)]
        simp only [put_someT, setIfInBounds_toArray, set_cons_zero, set_cons_succ] at hK
        have HK := Lib.hid hK
        clear hK he hi hBW
        go_simp
        exact HK.out _ _ (by first | rfl | simp [pgB]) (Below.refl _ _)
      · simp only [getElem?_toArray, getElem?_cons_zero, getElem?_cons_succ, Option.some.injEq] at ho
        subst ho
        have e9 : vs 9 = .bool true := (he ⟨9, .data⟩ (by simp) rfl : pgB P n c A i j 9 (vs 9) W)
        rw [e9] at hK ⊢
        rw [if_pos (by rfl)]
        simp only [put_someT, setIfInBounds_toArray, set_cons_zero, set_cons_succ] at hK
        have HK := Lib.hid hK
        clear hK he hi hBW
        go_simp
        exact HK.out _ _ (by first | rfl | simp [pgB]) (Below.refl _ _)
      · simp only [getElem?_toArray, getElem?_cons_zero, getElem?_cons_succ, Option.some.injEq] at ho
        subst ho
        have e10 : vs 10 = .bool true := (he ⟨10, .guard⟩ (by simp) rfl : pgB P n c A i j 10 (vs 10) W)
        rw [e10] at hK ⊢
        rw [if_pos (by rfl)]
        simp only [put_someT, setIfInBounds_toArray, set_cons_zero, set_cons_succ] at hK
        have HK := Lib.hid hK
        clear hK he hi hBW
        go_simp
        exact HK.out _ _ (by first | rfl | simp [pgB]) (Below.refl _ _)
      · simp only [getElem?_toArray, getElem?_cons_zero, getElem?_cons_succ, Option.some.injEq] at ho
        subst ho
        have e11 : vs 11 = .pointer (some ⟨P, 0, none⟩) := (he ⟨11, .data⟩ (by simp) rfl : pgB P n c A i j 11 (vs 11) W)
        rw [e11] at hK ⊢
        have e10 : vs 10 = .bool true := (he ⟨10, .guard⟩ (by simp) rfl : pgB P n c A i j 10 (vs 10) W)
        rw [e10] at hK ⊢
        rw [if_pos (by rfl)]
        simp only [put_someT, setIfInBounds_toArray, set_cons_zero, set_cons_succ] at hK
        have HK := Lib.hid hK
        clear hK he hi hBW
        go_simp
        exact HK.out _ _ (by first | rfl | simp [pgB]) (Below.refl _ _)
      · simp only [getElem?_toArray, getElem?_cons_zero, getElem?_cons_succ, Option.some.injEq] at ho
        subst ho
        have e12 : vs 12 = .pointer (some ⟨P, 0, none⟩) := (he ⟨12, .data⟩ (by simp) rfl : pgB P n c A i j 12 (vs 12) W)
        rw [e12] at hK ⊢
        have e10 : vs 10 = .bool true := (he ⟨10, .guard⟩ (by simp) rfl : pgB P n c A i j 10 (vs 10) W)
        rw [e10] at hK ⊢
        rw [if_pos (by rfl)]
        simp only [put_someT, setIfInBounds_toArray, set_cons_zero, set_cons_succ] at hK
        have HK := Lib.hid hK
        clear hK he hi hBW
        go_simp
        exact HK.out _ _ (by first | rfl | simp [pgB]) (Below.refl _ _)
      · simp only [getElem?_toArray, getElem?_cons_zero, getElem?_cons_succ, Option.some.injEq] at ho
        subst ho
        have e13 : vs 13 = .pointer (some ⟨P, 0, none⟩) := (he ⟨13, .data⟩ (by simp) rfl : pgB P n c A i j 13 (vs 13) W)
        rw [e13] at hK ⊢
        have e10 : vs 10 = .bool true := (he ⟨10, .guard⟩ (by simp) rfl : pgB P n c A i j 10 (vs 10) W)
        rw [e10] at hK ⊢
        rw [if_pos (by rfl)]
        simp only [put_someT, setIfInBounds_toArray, set_cons_zero, set_cons_succ] at hK
        have HK := Lib.hid hK
        clear hK he hi hBW
        have c0 := C0W.out
        go_simp
        exact HK.out _ _ rfl (Below.refl _ _)
      · simp only [getElem?_toArray, getElem?_cons_zero, getElem?_cons_succ, Option.some.injEq] at ho
        subst ho
        have e10 : vs 10 = .bool true := (he ⟨10, .guard⟩ (by simp) rfl : pgB P n c A i j 10 (vs 10) W)
        rw [e10] at hK ⊢
        rw [if_pos (by rfl)]
        simp only [put_someT, setIfInBounds_toArray, set_cons_zero, set_cons_succ] at hK
        have HK := Lib.hid hK
        clear hK he hi hBW
        go_simp
        exact HK.out _ _ (by first | rfl | simp [pgB]) (Below.refl _ _)
      · simp only [getElem?_toArray, getElem?_cons_zero, getElem?_cons_succ, Option.some.injEq] at ho
        subst ho
        have e14 : vs 14 = .slice A n c := (he ⟨14, .data⟩ (by simp) rfl : pgB P n c A i j 14 (vs 14) W)
        rw [e14] at hK ⊢
        have e15 : vs 15 = .int .i64 j := (he ⟨15, .data⟩ (by simp) rfl : pgB P n c A i j 15 (vs 15) W)
        rw [e15] at hK ⊢
        have e10 : vs 10 = .bool true := (he ⟨10, .guard⟩ (by simp) rfl : pgB P n c A i j 10 (vs 10) W)
        rw [e10] at hK ⊢
        rw [if_pos (by rfl)]
        simp only [put_someT, setIfInBounds_toArray, set_cons_zero, set_cons_succ] at hK
        have HK := Lib.hid hK
        clear hK he hi hBW
        go_simp
        go_at_call 102
        refine (IS.out j _ c W).mono ?_
        rintro en w9 ⟨rfl, h⟩
        rw [F2.out]
        go_simp
        exact HK.out _ _ rfl h
      · simp only [getElem?_toArray, getElem?_cons_zero, getElem?_cons_succ, Option.some.injEq] at ho
        subst ho
        have e10 : vs 10 = .bool true := (he ⟨10, .data⟩ (by simp) rfl : pgB P n c A i j 10 (vs 10) W)
        rw [e10] at hK ⊢
        have e16 : vs 16 = .bool false := (he ⟨16, .data⟩ (by simp) rfl : pgB P n c A i j 16 (vs 16) W)
        rw [e16] at hK ⊢
        rw [if_pos (by rfl)]
        simp only [put_someT, setIfInBounds_toArray, set_cons_zero, set_cons_succ] at hK
        have HK := Lib.hid hK
        clear hK he hi hBW
        go_simp
        exact HK.out _ _ (by first | rfl | simp [pgB]) (Below.refl _ _)
      · simp only [getElem?_toArray, getElem?_cons_zero, getElem?_cons_succ, Option.some.injEq] at ho
        subst ho
        have e17 : vs 17 = .bool false := (he ⟨17, .data⟩ (by simp) rfl : pgB P n c A i j 17 (vs 17) W)
        rw [e17] at hK ⊢
        rw [if_pos (by rfl)]
        simp only [put_someT, setIfInBounds_toArray, set_cons_zero, set_cons_succ] at hK
        have HK := Lib.hid hK
        clear hK he hi hBW
        go_simp
        exact HK.out _ _ (by first | rfl | simp [pgB]) (Below.refl _ _)
      · simp only [getElem?_toArray, getElem?_cons_zero, getElem?_cons_succ, Option.some.injEq] at ho
        subst ho
        have e18 : vs 18 = .bool false := (he ⟨18, .guard⟩ (by simp) rfl : pgB P n c A i j 18 (vs 18) W)
        rw [e18] at hK ⊢
        rw [if_neg (by exact Bool.false_ne_true)]
        exact hK _ _ rfl (Below.refl _ _)
      · simp only [getElem?_toArray, getElem?_cons_zero, getElem?_cons_succ, Option.some.injEq] at ho
        subst ho
        have e18 : vs 18 = .bool false := (he ⟨18, .guard⟩ (by simp) rfl : pgB P n c A i j 18 (vs 18) W)
        rw [e18] at hK ⊢
        rw [if_neg (by exact Bool.false_ne_true)]
        exact hK _ _ rfl (Below.refl _ _)
      · simp only [getElem?_toArray, getElem?_cons_zero, getElem?_cons_succ, Option.some.injEq] at ho
        subst ho
        have e19 : vs 19 = undef := (he ⟨19, .data⟩ (by simp) rfl : pgB P n c A i j 19 (vs 19) W)
        rw [e19] at hK ⊢
        have e20 : vs 20 = undef := (he ⟨20, .data⟩ (by simp) rfl : pgB P n c A i j 20 (vs 20) W)
        rw [e20] at hK ⊢
        have e18 : vs 18 = .bool false := (he ⟨18, .guard⟩ (by simp) rfl : pgB P n c A i j 18 (vs 18) W)
        rw [e18] at hK ⊢
        rw [if_neg (by exact Bool.false_ne_true)]
        exact hK _ _ rfl (Below.refl _ _)
      · simp only [getElem?_toArray, getElem?_cons_zero, getElem?_cons_succ, Option.some.injEq] at ho
        subst ho
        have e18 : vs 18 = .bool false := (he ⟨18, .data⟩ (by simp) rfl : pgB P n c A i j 18 (vs 18) W)
        rw [e18] at hK ⊢
        have e21 : vs 21 = undef := (he ⟨21, .data⟩ (by simp) rfl : pgB P n c A i j 21 (vs 21) W)
        rw [e21] at hK ⊢
        rw [if_pos (by rfl)]
        simp only [put_someT, setIfInBounds_toArray, set_cons_zero, set_cons_succ] at hK
        have HK := Lib.hid hK
        clear hK he hi hBW
        go_simp
        exact HK.out _ _ (by first | rfl | simp [pgB]) (Below.refl _ _)
      · simp only [getElem?_toArray, getElem?_cons_zero, getElem?_cons_succ, Option.some.injEq] at ho
        subst ho
        have e22 : vs 22 = .bool false := (he ⟨22, .data⟩ (by simp) rfl : pgB P n c A i j 22 (vs 22) W)
        rw [e22] at hK ⊢
        rw [if_pos (by rfl)]
        simp only [put_someT, setIfInBounds_toArray, set_cons_zero, set_cons_succ] at hK
        have HK := Lib.hid hK
        clear hK he hi hBW
        go_simp
        exact HK.out _ _ (by first | rfl | simp [pgB]) (Below.refl _ _)
      · simp only [getElem?_toArray, getElem?_cons_zero, getElem?_cons_succ, Option.some.injEq] at ho
        subst ho
        have e23 : vs 23 = .bool false := (he ⟨23, .guard⟩ (by simp) rfl : pgB P n c A i j 23 (vs 23) W)
        rw [e23] at hK ⊢
        rw [if_neg (by exact Bool.false_ne_true)]
        exact hK _ _ rfl (Below.refl _ _)
      · simp only [getElem?_toArray, getElem?_cons_zero, getElem?_cons_succ, Option.some.injEq] at ho
        subst ho
        have e24 : vs 24 = undef := (he ⟨24, .data⟩ (by simp) rfl : pgB P n c A i j 24 (vs 24) W)
        rw [e24] at hK ⊢
        have e23 : vs 23 = .bool false := (he ⟨23, .guard⟩ (by simp) rfl : pgB P n c A i j 23 (vs 23) W)
        rw [e23] at hK ⊢
        rw [if_neg (by exact Bool.false_ne_true)]
        exact hK _ _ rfl (Below.refl _ _)
      · simp only [getElem?_toArray, getElem?_cons_zero, getElem?_cons_succ, Option.some.injEq] at ho
        subst ho
        have e25 : vs 25 = undef := (he ⟨25, .data⟩ (by simp) rfl : pgB P n c A i j 25 (vs 25) W)
        rw [e25] at hK ⊢
        have e23 : vs 23 = .bool false := (he ⟨23, .guard⟩ (by simp) rfl : pgB P n c A i j 23 (vs 23) W)
        rw [e23] at hK ⊢
        rw [if_neg (by exact Bool.false_ne_true)]
        exact hK _ _ rfl (Below.refl _ _)
      · simp only [getElem?_toArray, getElem?_cons_zero, getElem?_cons_succ, Option.some.injEq] at ho
        subst ho
        have e26 : vs 26 = undef := (he ⟨26, .data⟩ (by simp) rfl : pgB P n c A i j 26 (vs 26) W)
        rw [e26] at hK ⊢
        have e23 : vs 23 = .bool false := (he ⟨23, .guard⟩ (by simp) rfl : pgB P n c A i j 23 (vs 23) W)
        rw [e23] at hK ⊢
        rw [if_neg (by exact Bool.false_ne_true)]
        exact hK _ _ rfl (Below.refl _ _)
      · simp only [getElem?_toArray, getElem?_cons_zero, getElem?_cons_succ, Option.some.injEq] at ho
        subst ho
        have e23 : vs 23 = .bool false := (he ⟨23, .guard⟩ (by simp) rfl : pgB P n c A i j 23 (vs 23) W)
        rw [e23] at hK ⊢
        rw [if_neg (by exact Bool.false_ne_true)]
        exact hK _ _ rfl (Below.refl _ _)
      · simp only [getElem?_toArray, getElem?_cons_zero, getElem?_cons_succ, Option.some.injEq] at ho
        subst ho
        have e27 : vs 27 = undef := (he ⟨27, .data⟩ (by simp) rfl : pgB P n c A i j 27 (vs 27) W)
        rw [e27] at hK ⊢
        have e28 : vs 28 = undef := (he ⟨28, .data⟩ (by simp) rfl : pgB P n c A i j 28 (vs 28) W)
        rw [e28] at hK ⊢
        have e23 : vs 23 = .bool false := (he ⟨23, .guard⟩ (by simp) rfl : pgB P n c A i j 23 (vs 23) W)
        rw [e23] at hK ⊢
        rw [if_neg (by exact Bool.false_ne_true)]
        exact hK _ _ rfl (Below.refl _ _)
      · simp only [getElem?_toArray, getElem?_cons_zero, getElem?_cons_succ, Option.some.injEq] at ho
        subst ho
        have e29 : vs 29 = undef := (he ⟨29, .data⟩ (by simp) rfl : pgB P n c A i j 29 (vs 29) W)
        rw [e29] at hK ⊢
        have e23 : vs 23 = .bool false := (he ⟨23, .guard⟩ (by simp) rfl : pgB P n c A i j 23 (vs 23) W)
        rw [e23] at hK ⊢
        rw [if_neg (by exact Bool.false_ne_true)]
        exact hK _ _ rfl (Below.refl _ _)
      · simp only [getElem?_toArray, getElem?_cons_zero, getElem?_cons_succ, Option.some.injEq] at ho
        subst ho
        have e30 : vs 30 = undef := (he ⟨30, .data⟩ (by simp) rfl : pgB P n c A i j 30 (vs 30) W)
        rw [e30] at hK ⊢
        have e23 : vs 23 = .bool false := (he ⟨23, .guard⟩ (by simp) rfl : pgB P n c A i j 23 (vs 23) W)
        rw [e23] at hK ⊢
        rw [if_neg (by exact Bool.false_ne_true)]
        exact hK _ _ rfl (Below.refl _ _)
      · simp only [getElem?_toArray, getElem?_cons_zero, getElem?_cons_succ, Option.some.injEq] at ho
        subst ho
        have e23 : vs 23 = .bool false := (he ⟨23, .guard⟩ (by simp) rfl : pgB P n c A i j 23 (vs 23) W)
        rw [e23] at hK ⊢
        rw [if_neg (by exact Bool.false_ne_true)]
        exact hK _ _ rfl (Below.refl _ _)
      · simp only [getElem?_toArray, getElem?_cons_zero, getElem?_cons_succ, Option.some.injEq] at ho
        subst ho
        have e32 : vs 32 = undef := (he ⟨32, .data⟩ (by simp) rfl : pgB P n c A i j 32 (vs 32) W)
        rw [e32] at hK ⊢
        have e23 : vs 23 = .bool false := (he ⟨23, .guard⟩ (by simp) rfl : pgB P n c A i j 23 (vs 23) W)
        rw [e23] at hK ⊢
        rw [if_neg (by exact Bool.false_ne_true)]
        exact hK _ _ rfl (Below.refl _ _)
      · simp only [getElem?_toArray, getElem?_cons_zero, getElem?_cons_succ, Option.some.injEq] at ho
        subst ho
        have e33 : vs 33 = undef := (he ⟨33, .data⟩ (by simp) rfl : pgB P n c A i j 33 (vs 33) W)
        rw [e33] at hK ⊢
        have e23 : vs 23 = .bool false := (he ⟨23, .guard⟩ (by simp) rfl : pgB P n c A i j 23 (vs 23) W)
        rw [e23] at hK ⊢
        rw [if_neg (by exact Bool.false_ne_true)]
        exact hK _ _ rfl (Below.refl _ _)
      · simp only [getElem?_toArray, getElem?_cons_zero, getElem?_cons_succ, Option.some.injEq] at ho
        subst ho
        have e34 : vs 34 = undef := (he ⟨34, .data⟩ (by simp) rfl : pgB P n c A i j 34 (vs 34) W)
        rw [e34] at hK ⊢
        have e23 : vs 23 = .bool false := (he ⟨23, .guard⟩ (by simp) rfl : pgB P n c A i j 23 (vs 23) W)
        rw [e23] at hK ⊢
        rw [if_neg (by exact Bool.false_ne_true)]
        exact hK _ _ rfl (Below.refl _ _)
      · simp only [getElem?_toArray, getElem?_cons_zero, getElem?_cons_succ, Option.some.injEq] at ho
        subst ho
        have e23 : vs 23 = .bool false := (he ⟨23, .guard⟩ (by simp) rfl : pgB P n c A i j 23 (vs 23) W)
        rw [e23] at hK ⊢
        rw [if_neg (by exact Bool.false_ne_true)]
        exact hK _ _ rfl (Below.refl _ _)
      · simp only [getElem?_toArray, getElem?_cons_zero, getElem?_cons_succ, Option.some.injEq] at ho
        subst ho
        have e35 : vs 35 = undef := (he ⟨35, .data⟩ (by simp) rfl : pgB P n c A i j 35 (vs 35) W)
        rw [e35] at hK ⊢
        have e36 : vs 36 = undef := (he ⟨36, .data⟩ (by simp) rfl : pgB P n c A i j 36 (vs 36) W)
        rw [e36] at hK ⊢
        have e23 : vs 23 = .bool false := (he ⟨23, .guard⟩ (by simp) rfl : pgB P n c A i j 23 (vs 23) W)
        rw [e23] at hK ⊢
        rw [if_neg (by exact Bool.false_ne_true)]
        exact hK _ _ rfl (Below.refl _ _)
      · simp only [getElem?_toArray, getElem?_cons_zero, getElem?_cons_succ, Option.some.injEq] at ho
        subst ho
        have e37 : vs 37 = undef := (he ⟨37, .data⟩ (by simp) rfl : pgB P n c A i j 37 (vs 37) W)
        rw [e37] at hK ⊢
        have e23 : vs 23 = .bool false := (he ⟨23, .guard⟩ (by simp) rfl : pgB P n c A i j 23 (vs 23) W)
        rw [e23] at hK ⊢
        rw [if_neg (by exact Bool.false_ne_true)]
        exact hK _ _ rfl (Below.refl _ _)
      · simp only [getElem?_toArray, getElem?_cons_zero, getElem?_cons_succ, Option.some.injEq] at ho
        subst ho
        have e38 : vs 38 = undef := (he ⟨38, .data⟩ (by simp) rfl : pgB P n c A i j 38 (vs 38) W)
        rw [e38] at hK ⊢
        have e23 : vs 23 = .bool false := (he ⟨23, .guard⟩ (by simp) rfl : pgB P n c A i j 23 (vs 23) W)
        rw [e23] at hK ⊢
        rw [if_neg (by exact Bool.false_ne_true)]
        exact hK _ _ rfl (Below.refl _ _)
      · simp only [getElem?_toArray, getElem?_cons_zero, getElem?_cons_succ, Option.some.injEq] at ho
        subst ho
        have e31 : vs 31 = undef := (he ⟨31, .data⟩ (by simp) rfl : pgB P n c A i j 31 (vs 31) W)
        rw [e31] at hK ⊢
        have e39 : vs 39 = undef := (he ⟨39, .data⟩ (by simp) rfl : pgB P n c A i j 39 (vs 39) W)
        rw [e39] at hK ⊢
        have e23 : vs 23 = .bool false := (he ⟨23, .guard⟩ (by simp) rfl : pgB P n c A i j 23 (vs 23) W)
        rw [e23] at hK ⊢
        rw [if_neg (by exact Bool.false_ne_true)]
        exact hK _ _ rfl (Below.refl _ _)
      · simp only [getElem?_toArray, getElem?_cons_zero, getElem?_cons_succ, Option.some.injEq] at ho
        subst ho
        have e23 : vs 23 = .bool false := (he ⟨23, .data⟩ (by simp) rfl : pgB P n c A i j 23 (vs 23) W)
        rw [e23] at hK ⊢
        have e40 : vs 40 = undef := (he ⟨40, .data⟩ (by simp) rfl : pgB P n c A i j 40 (vs 40) W)
        rw [e40] at hK ⊢
        rw [if_pos (by rfl)]
        simp only [put_someT, setIfInBounds_toArray, set_cons_zero, set_cons_succ] at hK
        have HK := Lib.hid hK
        clear hK he hi hBW
        go_simp
        exact HK.out _ _ (by first | rfl | simp [pgB]) (Below.refl _ _)
      · simp only [getElem?_toArray, getElem?_cons_zero, getElem?_cons_succ, Option.some.injEq] at ho
        subst ho
        have e41 : vs 41 = .bool false := (he ⟨41, .data⟩ (by simp) rfl : pgB P n c A i j 41 (vs 41) W)
        rw [e41] at hK ⊢
        rw [if_pos (by rfl)]
        simp only [put_someT, setIfInBounds_toArray, set_cons_zero, set_cons_succ] at hK
        have HK := Lib.hid hK
        clear hK he hi hBW
        go_simp
        exact HK.out _ _ (by first | rfl | simp [pgB]) (Below.refl _ _)
    · intro vs W hall hBW
      have e42 : vs 42 = .bool false := (hall 42 (by decide) : pgB P n c A i j 42 (vs 42) W)
      simp only [fillV, put_someT, setIfInBounds_toArray, set_cons_zero, set_cons_succ]
      rw [e42]
      have BW := Lib.hid hBW
      clear hall hBW
      go_wp2_with fail
      go_ret
      exact ⟨rfl, BW.out⟩
  by_cases q3 : i = j
  · have F1 := Lib.hid (show decide (0 ≤ i ∧ i < (n : Int)) = true from decide_eq_true q1)
    have F2 := Lib.hid (show decide (0 ≤ j ∧ j < (n : Int)) = true from decide_eq_true q2)
    have ER := Lib.hid (show obsP L i j = false by unfold obsP; rw [← HN.out, decide_eq_true q1, decide_eq_true q2, decide_eq_false (fun h => h q3)]; rfl)
    have F3 := Lib.hid q3
    clear q1 q2 q3
    rw [ER.out]
    go_enter Tryz.func133, Tryz.ntmps133
    go_wp2_with fail
    refine wp_region_vals (PP := pgC P n c A i j) rfl (by kernel_rfl) (by decide) (pgC_mono P n c A i j) (fun i => if i = 42 then .bool false else undef) (by simp [fillV, put_someT, setIfInBounds_toArray, set_cons_zero, set_cons_succ]) ?_ ?_
    · intro i o vs W hi ho he hBW K hK
      simp only [fillV, put_someT, setIfInBounds_toArray, set_cons_zero, set_cons_succ] at hK ⊢
      have BW := Lib.hid hBW
      have C0W := Lib.hid ((hBW.cell (p := ⟨P, 0, none⟩) HLT.out).trans C0.out)
      obtain rfl | rfl | rfl | rfl | rfl | rfl | rfl | rfl | rfl | rfl | rfl | rfl | rfl | rfl | rfl | rfl | rfl | rfl | rfl | rfl | rfl | rfl | rfl | rfl | rfl | rfl | rfl | rfl | rfl | rfl | rfl | rfl | rfl | rfl | rfl | rfl | rfl | rfl | rfl | rfl | rfl | rfl | rfl := (show i = 0 ∨ i = 1 ∨ i = 2 ∨ i = 3 ∨ i = 4 ∨ i = 5 ∨ i = 6 ∨ i = 7 ∨ i = 8 ∨ i = 9 ∨ i = 10 ∨ i = 11 ∨ i = 12 ∨ i = 13 ∨ i = 14 ∨ i = 15 ∨ i = 16 ∨ i = 17 ∨ i = 18 ∨ i = 19 ∨ i = 20 ∨ i = 21 ∨ i = 22 ∨ i = 23 ∨ i = 24 ∨ i = 25 ∨ i = 26 ∨ i = 27 ∨ i = 28 ∨ i = 29 ∨ i = 30 ∨ i = 31 ∨ i = 32 ∨ i = 33 ∨ i = 34 ∨ i = 35 ∨ i = 36 ∨ i = 37 ∨ i = 38 ∨ i = 39 ∨ i = 40 ∨ i = 41 ∨ i = 42 by exact (by have : i < 43 := hi; omega))
      · simp only [getElem?_toArray, getElem?_cons_zero, getElem?_cons_succ, Option.some.injEq] at ho
        subst ho
        rw [if_pos (by rfl)]
        simp only [put_someT, setIfInBounds_toArray, set_cons_zero, set_cons_succ] at hK
        have HK := Lib.hid hK
        clear hK he hi hBW
        go_simp
        exact HK.out _ _ (by first | rfl | simp [pgC]) (Below.refl _ _)
      · simp only [getElem?_toArray, getElem?_cons_zero, getElem?_cons_succ, Option.some.injEq] at ho
        subst ho
        have e0 : vs 0 = .pointer (some ⟨P, 0, none⟩) := (he ⟨0, .data⟩ (by simp) rfl : pgC P n c A i j 0 (vs 0) W)
        rw [e0] at hK ⊢
        rw [if_pos (by rfl)]
        simp only [put_someT, setIfInBounds_toArray, set_cons_zero, set_cons_succ] at hK
        have HK := Lib.hid hK
        clear hK he hi hBW
        go_simp
        exact HK.out _ _ rfl (Below.refl _ _)
      · simp only [getElem?_toArray, getElem?_cons_zero, getElem?_cons_succ, Option.some.injEq] at ho
        subst ho
        have e1 : vs 1 = .bool true := (he ⟨1, .data⟩ (by simp) rfl : pgC P n c A i j 1 (vs 1) W)
        rw [e1] at hK ⊢
        rw [if_pos (by rfl)]
        simp only [put_someT, setIfInBounds_toArray, set_cons_zero, set_cons_succ] at hK
        have HK := Lib.hid hK
        clear hK he hi hBW
        go_simp
        exact HK.out _ _ (by first | rfl | simp [pgC]) (Below.refl _ _)
      · simp only [getElem?_toArray, getElem?_cons_zero, getElem?_cons_succ, Option.some.injEq] at ho
        subst ho
        have e2 : vs 2 = .bool true := (he ⟨2, .guard⟩ (by simp) rfl : pgC P n c A i j 2 (vs 2) W)
        rw [e2] at hK ⊢
        rw [if_pos (by rfl)]
        simp only [put_someT, setIfInBounds_toArray, set_cons_zero, set_cons_succ] at hK
        have HK := Lib.hid hK
        clear hK he hi hBW
        go_simp
        exact HK.out _ _ (by first | rfl | simp [pgC]) (Below.refl _ _)
      · simp only [getElem?_toArray, getElem?_cons_zero, getElem?_cons_succ, Option.some.injEq] at ho
        subst ho
        have e3 : vs 3 = .pointer (some ⟨P, 0, none⟩) := (he ⟨3, .data⟩ (by simp) rfl : pgC P n c A i j 3 (vs 3) W)
        rw [e3] at hK ⊢
        have e2 : vs 2 = .bool true := (he ⟨2, .guard⟩ (by simp) rfl : pgC P n c A i j 2 (vs 2) W)
        rw [e2] at hK ⊢
        rw [if_pos (by rfl)]
        simp only [put_someT, setIfInBounds_toArray, set_cons_zero, set_cons_succ] at hK
        have HK := Lib.hid hK
        clear hK he hi hBW
        go_simp
        exact HK.out _ _ (by first | rfl | simp [pgC]) (Below.refl _ _)
      · simp only [getElem?_toArray, getElem?_cons_zero, getElem?_cons_succ, Option.some.injEq] at ho
        subst ho
        have e4 : vs 4 = .pointer (some ⟨P, 0, none⟩) := (he ⟨4, .data⟩ (by simp) rfl : pgC P n c A i j 4 (vs 4) W)
        rw [e4] at hK ⊢
        have e2 : vs 2 = .bool true := (he ⟨2, .guard⟩ (by simp) rfl : pgC P n c A i j 2 (vs 2) W)
        rw [e2] at hK ⊢
        rw [if_pos (by rfl)]
        simp only [put_someT, setIfInBounds_toArray, set_cons_zero, set_cons_succ] at hK
        have HK := Lib.hid hK
        clear hK he hi hBW
        go_simp
        exact HK.out _ _ (by first | rfl | simp [pgC]) (Below.refl _ _)
      · simp only [getElem?_toArray, getElem?_cons_zero, getElem?_cons_succ, Option.some.injEq] at ho
        subst ho
        have e5 : vs 5 = .pointer (some ⟨P, 0, none⟩) := (he ⟨5, .data⟩ (by simp) rfl : pgC P n c A i j 5 (vs 5) W)
        rw [e5] at hK ⊢
        have e2 : vs 2 = .bool true := (he ⟨2, .guard⟩ (by simp) rfl : pgC P n c A i j 2 (vs 2) W)
        rw [e2] at hK ⊢
        rw [if_pos (by rfl)]
        simp only [put_someT, setIfInBounds_toArray, set_cons_zero, set_cons_succ] at hK
        have HK := Lib.hid hK
        clear hK he hi hBW
        have c0 := C0W.out
        go_simp
        exact HK.out _ _ rfl (Below.refl _ _)
      · simp only [getElem?_toArray, getElem?_cons_zero, getElem?_cons_succ, Option.some.injEq] at ho
        subst ho
        have e2 : vs 2 = .bool true := (he ⟨2, .guard⟩ (by simp) rfl : pgC P n c A i j 2 (vs 2) W)
        rw [e2] at hK ⊢
        rw [if_pos (by rfl)]
        simp only [put_someT, setIfInBounds_toArray, set_cons_zero, set_cons_succ] at hK
        have HK := Lib.hid hK
        clear hK he hi hBW
        go_simp
        exact HK.out _ _ (by first | rfl | simp [pgC]) (Below.refl _ _)
      · simp only [getElem?_toArray, getElem?_cons_zero, getElem?_cons_succ, Option.some.injEq] at ho
        subst ho
        have e6 : vs 6 = .slice A n c := (he ⟨6, .data⟩ (by simp) rfl : pgC P n c A i j 6 (vs 6) W)
        rw [e6] at hK ⊢
        have e7 : vs 7 = .int .i64 i := (he ⟨7, .data⟩ (by simp) rfl : pgC P n c A i j 7 (vs 7) W)
        rw [e7] at hK ⊢
        have e2 : vs 2 = .bool true := (he ⟨2, .guard⟩ (by simp) rfl : pgC P n c A i j 2 (vs 2) W)
        rw [e2] at hK ⊢
        rw [if_pos (by rfl)]
        simp only [put_someT, setIfInBounds_toArray, set_cons_zero, set_cons_succ] at hK
        have HK := Lib.hid hK
        clear hK he hi hBW
        go_simp
        go_at_call 102
        refine (IS.out i _ c W).mono ?_
        rintro en w9 ⟨rfl, h⟩
        rw [F1.out]
        go_simp
        exact HK.out _ _ rfl h
      · simp only [getElem?_toArray, getElem?_cons_zero, getElem?_cons_succ, Option.some.injEq] at ho
        subst ho
        have e2 : vs 2 = .bool true := (he ⟨2, .data⟩ (by simp) rfl : pgC P n c A i j 2 (vs 2) W)
        rw [e2] at hK ⊢
        have e8 : vs 8 = .bool true := (he ⟨8, .data⟩ (by simp) rfl : pgC P n c A i j 8 (vs 8) W)
        rw [e8] at hK ⊢
        rw [if_pos (by rfl)]
        simp only [put_someT, setIfInBounds_toArray, set_cons_zero, set_cons_succ] at hK
        have HK := Lib.hid hK
        clear hK he hi hBW
        go_simp
        exact HK.out _ _ (by first | rfl | simp [pgC]) (Below.refl _ _)
      · simp only [getElem?_toArray, getElem?_cons_zero, getElem?_cons_succ, Option.some.injEq] at ho
        subst ho
        have e9 : vs 9 = .bool true := (he ⟨9, .data⟩ (by simp) rfl : pgC P n c A i j 9 (vs 9) W)
        rw [e9] at hK ⊢
        rw [if_pos (by rfl)]
        simp only [put_someT, setIfInBounds_toArray, set_cons_zero, set_cons_succ] at hK
        have HK := Lib.hid hK
        clear hK he hi hBW
        go_simp
        exact HK.out _ _ (by first | rfl | simp [pgC]) (Below.refl _ _)
      · simp only [getElem?_toArray, getElem?_cons_zero, getElem?_cons_succ, Option.some.injEq] at ho
        subst ho
        have e10 : vs 10 = .bool true := (he ⟨10, .guard⟩ (by simp) rfl : pgC P n c A i j 10 (vs 10) W)
        rw [e10] at hK ⊢
        rw [if_pos (by rfl)]
        simp only [put_someT, setIfInBounds_toArray, set_cons_zero, set_cons_succ] at hK
        have HK := Lib.hid hK
        clear hK he hi hBW
        go_simp
        exact HK.out _ _ (by first | rfl | simp [pgC]) (Below.refl _ _)
      · simp only [getElem?_toArray, getElem?_cons_zero, getElem?_cons_succ, Option.some.injEq] at ho
        subst ho
        have e11 : vs 11 = .pointer (some ⟨P, 0, none⟩) := (he ⟨11, .data⟩ (by simp) rfl : pgC P n c A i j 11 (vs 11) W)
        rw [e11] at hK ⊢
        have e10 : vs 10 = .bool true := (he ⟨10, .guard⟩ (by simp) rfl : pgC P n c A i j 10 (vs 10) W)
        rw [e10] at hK ⊢
        rw [if_pos (by rfl)]
        simp only [put_someT, setIfInBounds_toArray, set_cons_zero, set_cons_succ] at hK
        have HK := Lib.hid hK
        clear hK he hi hBW
        go_simp
        exact HK.out _ _ (by first | rfl | simp [pgC]) (Below.refl _ _)
      · simp only [getElem?_toArray, getElem?_cons_zero, getElem?_cons_succ, Option.some.injEq] at ho
        subst ho
        have e12 : vs 12 = .pointer (some ⟨P, 0, none⟩) := (he ⟨12, .data⟩ (by simp) rfl : pgC P n c A i j 12 (vs 12) W)
        rw [e12] at hK ⊢
        have e10 : vs 10 = .bool true := (he ⟨10, .guard⟩ (by simp) rfl : pgC P n c A i j 10 (vs 10) W)
        rw [e10] at hK ⊢
        rw [if_pos (by rfl)]
        simp only [put_someT, setIfInBounds_toArray, set_cons_zero, set_cons_succ] at hK
        have HK := Lib.hid hK
        clear hK he hi hBW
        go_simp
        exact HK.out _ _ (by first | rfl | simp [pgC]) (Below.refl _ _)
      · simp only [getElem?_toArray, getElem?_cons_zero, getElem?_cons_succ, Option.some.injEq] at ho
        subst ho
        have e13 : vs 13 = .pointer (some ⟨P, 0, none⟩) := (he ⟨13, .data⟩ (by simp) rfl : pgC P n c A i j 13 (vs 13) W)
        rw [e13] at hK ⊢
        have e10 : vs 10 = .bool true := (he ⟨10, .guard⟩ (by simp) rfl : pgC P n c A i j 10 (vs 10) W)
        rw [e10] at hK ⊢
        rw [if_pos (by rfl)]
        simp only [put_someT, setIfInBounds_toArray, set_cons_zero, set_cons_succ] at hK
        have HK := Lib.hid hK
        clear hK he hi hBW
        have c0 := C0W.out
        go_simp
        exact HK.out _ _ rfl (Below.refl _ _)
      · simp only [getElem?_toArray, getElem?_cons_zero, getElem?_cons_succ, Option.some.injEq] at ho
        subst ho
        have e10 : vs 10 = .bool true := (he ⟨10, .guard⟩ (by simp) rfl : pgC P n c A i j 10 (vs 10) W)
        rw [e10] at hK ⊢
        rw [if_pos (by rfl)]
        simp only [put_someT, setIfInBounds_toArray, set_cons_zero, set_cons_succ] at hK
        have HK := Lib.hid hK
        clear hK he hi hBW
        go_simp
        exact HK.out _ _ (by first | rfl | simp [pgC]) (Below.refl _ _)
      · simp only [getElem?_toArray, getElem?_cons_zero, getElem?_cons_succ, Option.some.injEq] at ho
        subst ho
        have e14 : vs 14 = .slice A n c := (he ⟨14, .data⟩ (by simp) rfl : pgC P n c A i j 14 (vs 14) W)
        rw [e14] at hK ⊢
        have e15 : vs 15 = .int .i64 j := (he ⟨15, .data⟩ (by simp) rfl : pgC P n c A i j 15 (vs 15) W)
        rw [e15] at hK ⊢
        have e10 : vs 10 = .bool true := (he ⟨10, .guard⟩ (by simp) rfl : pgC P n c A i j 10 (vs 10) W)
        rw [e10] at hK ⊢
        rw [if_pos (by rfl)]
        simp only [put_someT, setIfInBounds_toArray, set_cons_zero, set_cons_succ] at hK
        have HK := Lib.hid hK
        clear hK he hi hBW
        go_simp
        go_at_call 102
        refine (IS.out j _ c W).mono ?_
        rintro en w9 ⟨rfl, h⟩
        rw [F2.out]
        go_simp
        exact HK.out _ _ rfl h
      · simp only [getElem?_toArray, getElem?_cons_zero, getElem?_cons_succ, Option.some.injEq] at ho
        subst ho
        have e10 : vs 10 = .bool true := (he ⟨10, .data⟩ (by simp) rfl : pgC P n c A i j 10 (vs 10) W)
        rw [e10] at hK ⊢
        have e16 : vs 16 = .bool true := (he ⟨16, .data⟩ (by simp) rfl : pgC P n c A i j 16 (vs 16) W)
        rw [e16] at hK ⊢
        rw [if_pos (by rfl)]
        simp only [put_someT, setIfInBounds_toArray, set_cons_zero, set_cons_succ] at hK
        have HK := Lib.hid hK
        clear hK he hi hBW
        go_simp
        exact HK.out _ _ (by first | rfl | simp [pgC]) (Below.refl _ _)
      · simp only [getElem?_toArray, getElem?_cons_zero, getElem?_cons_succ, Option.some.injEq] at ho
        subst ho
        have e17 : vs 17 = .bool true := (he ⟨17, .data⟩ (by simp) rfl : pgC P n c A i j 17 (vs 17) W)
        rw [e17] at hK ⊢
        rw [if_pos (by rfl)]
        simp only [put_someT, setIfInBounds_toArray, set_cons_zero, set_cons_succ] at hK
        have HK := Lib.hid hK
        clear hK he hi hBW
        go_simp
        exact HK.out _ _ (by first | rfl | simp [pgC]) (Below.refl _ _)
      · simp only [getElem?_toArray, getElem?_cons_zero, getElem?_cons_succ, Option.some.injEq] at ho
        subst ho
        have e18 : vs 18 = .bool true := (he ⟨18, .guard⟩ (by simp) rfl : pgC P n c A i j 18 (vs 18) W)
        rw [e18] at hK ⊢
        rw [if_pos (by rfl)]
        simp only [put_someT, setIfInBounds_toArray, set_cons_zero, set_cons_succ] at hK
        have HK := Lib.hid hK
        clear hK he hi hBW
        go_simp
        exact HK.out _ _ (by first | rfl | simp [pgC]) (Below.refl _ _)
      · simp only [getElem?_toArray, getElem?_cons_zero, getElem?_cons_succ, Option.some.injEq] at ho
        subst ho
        have e18 : vs 18 = .bool true := (he ⟨18, .guard⟩ (by simp) rfl : pgC P n c A i j 18 (vs 18) W)
        rw [e18] at hK ⊢
        rw [if_pos (by rfl)]
        simp only [put_someT, setIfInBounds_toArray, set_cons_zero, set_cons_succ] at hK
        have HK := Lib.hid hK
        clear hK he hi hBW
        go_simp
        exact HK.out _ _ (by first | rfl | simp [pgC]) (Below.refl _ _)
      · simp only [getElem?_toArray, getElem?_cons_zero, getElem?_cons_succ, Option.some.injEq] at ho
        subst ho
        have e19 : vs 19 = .int .i64 i := (he ⟨19, .data⟩ (by simp) rfl : pgC P n c A i j 19 (vs 19) W)
        rw [e19] at hK ⊢
        have e20 : vs 20 = .int .i64 j := (he ⟨20, .data⟩ (by simp) rfl : pgC P n c A i j 20 (vs 20) W)
        rw [e20] at hK ⊢
        have e18 : vs 18 = .bool true := (he ⟨18, .guard⟩ (by simp) rfl : pgC P n c A i j 18 (vs 18) W)
        rw [e18] at hK ⊢
        rw [if_pos (by rfl)]
        simp only [put_someT, setIfInBounds_toArray, set_cons_zero, set_cons_succ] at hK
        have HK := Lib.hid hK
        clear hK he hi hBW
        go_simp
        have f3 := F3.out
        exact HK.out _ _ (by simp [pgC, f3]) (Below.refl _ _)
      · simp only [getElem?_toArray, getElem?_cons_zero, getElem?_cons_succ, Option.some.injEq] at ho
        subst ho
        have e18 : vs 18 = .bool true := (he ⟨18, .data⟩ (by simp) rfl : pgC P n c A i j 18 (vs 18) W)
        rw [e18] at hK ⊢
        have e21 : vs 21 = .bool false := (he ⟨21, .data⟩ (by simp) rfl : pgC P n c A i j 21 (vs 21) W)
        rw [e21] at hK ⊢
        rw [if_pos (by rfl)]
        simp only [put_someT, setIfInBounds_toArray, set_cons_zero, set_cons_succ] at hK
        have HK := Lib.hid hK
        clear hK he hi hBW
        go_simp
        exact HK.out _ _ (by first | rfl | simp [pgC]) (Below.refl _ _)
      · simp only [getElem?_toArray, getElem?_cons_zero, getElem?_cons_succ, Option.some.injEq] at ho
        subst ho
        have e22 : vs 22 = .bool false := (he ⟨22, .data⟩ (by simp) rfl : pgC P n c A i j 22 (vs 22) W)
        rw [e22] at hK ⊢
        rw [if_pos (by rfl)]
        simp only [put_someT, setIfInBounds_toArray, set_cons_zero, set_cons_succ] at hK
        have HK := Lib.hid hK
        clear hK he hi hBW
        go_simp
        exact HK.out _ _ (by first | rfl | simp [pgC]) (Below.refl _ _)
      · simp only [getElem?_toArray, getElem?_cons_zero, getElem?_cons_succ, Option.some.injEq] at ho
        subst ho
        have e23 : vs 23 = .bool false := (he ⟨23, .guard⟩ (by simp) rfl : pgC P n c A i j 23 (vs 23) W)
        rw [e23] at hK ⊢
        rw [if_neg (by exact Bool.false_ne_true)]
        exact hK _ _ rfl (Below.refl _ _)
      · simp only [getElem?_toArray, getElem?_cons_zero, getElem?_cons_succ, Option.some.injEq] at ho
        subst ho
        have e24 : vs 24 = undef := (he ⟨24, .data⟩ (by simp) rfl : pgC P n c A i j 24 (vs 24) W)
        rw [e24] at hK ⊢
        have e23 : vs 23 = .bool false := (he ⟨23, .guard⟩ (by simp) rfl : pgC P n c A i j 23 (vs 23) W)
        rw [e23] at hK ⊢
        rw [if_neg (by exact Bool.false_ne_true)]
        exact hK _ _ rfl (Below.refl _ _)
      · simp only [getElem?_toArray, getElem?_cons_zero, getElem?_cons_succ, Option.some.injEq] at ho
        subst ho
        have e25 : vs 25 = undef := (he ⟨25, .data⟩ (by simp) rfl : pgC P n c A i j 25 (vs 25) W)
        rw [e25] at hK ⊢
        have e23 : vs 23 = .bool false := (he ⟨23, .guard⟩ (by simp) rfl : pgC P n c A i j 23 (vs 23) W)
        rw [e23] at hK ⊢
        rw [if_neg (by exact Bool.false_ne_true)]
        exact hK _ _ rfl (Below.refl _ _)
      · simp only [getElem?_toArray, getElem?_cons_zero, getElem?_cons_succ, Option.some.injEq] at ho
        subst ho
        have e26 : vs 26 = undef := (he ⟨26, .data⟩ (by simp) rfl : pgC P n c A i j 26 (vs 26) W)
        rw [e26] at hK ⊢
        have e23 : vs 23 = .bool false := (he ⟨23, .guard⟩ (by simp) rfl : pgC P n c A i j 23 (vs 23) W)
        rw [e23] at hK ⊢
        rw [if_neg (by exact Bool.false_ne_true)]
        exact hK _ _ rfl (Below.refl _ _)
      · simp only [getElem?_toArray, getElem?_cons_zero, getElem?_cons_succ, Option.some.injEq] at ho
        subst ho
        have e23 : vs 23 = .bool false := (he ⟨23, .guard⟩ (by simp) rfl : pgC P n c A i j 23 (vs 23) W)
        rw [e23] at hK ⊢
        rw [if_neg (by exact Bool.false_ne_true)]
        exact hK _ _ rfl (Below.refl _ _)
      · simp only [getElem?_toArray, getElem?_cons_zero, getElem?_cons_succ, Option.some.injEq] at ho
        subst ho
        have e27 : vs 27 = undef := (he ⟨27, .data⟩ (by simp) rfl : pgC P n c A i j 27 (vs 27) W)
        rw [e27] at hK ⊢
        have e28 : vs 28 = undef := (he ⟨28, .data⟩ (by simp) rfl : pgC P n c A i j 28 (vs 28) W)
        rw [e28] at hK ⊢
        have e23 : vs 23 = .bool false := (he ⟨23, .guard⟩ (by simp) rfl : pgC P n c A i j 23 (vs 23) W)
        rw [e23] at hK ⊢
        rw [if_neg (by exact Bool.false_ne_true)]
        exact hK _ _ rfl (Below.refl _ _)
      · simp only [getElem?_toArray, getElem?_cons_zero, getElem?_cons_succ, Option.some.injEq] at ho
        subst ho
        have e29 : vs 29 = undef := (he ⟨29, .data⟩ (by simp) rfl : pgC P n c A i j 29 (vs 29) W)
        rw [e29] at hK ⊢
        have e23 : vs 23 = .bool false := (he ⟨23, .guard⟩ (by simp) rfl : pgC P n c A i j 23 (vs 23) W)
        rw [e23] at hK ⊢
        rw [if_neg (by exact Bool.false_ne_true)]
        exact hK _ _ rfl (Below.refl _ _)
      · simp only [getElem?_toArray, getElem?_cons_zero, getElem?_cons_succ, Option.some.injEq] at ho
        subst ho
        have e30 : vs 30 = undef := (he ⟨30, .data⟩ (by simp) rfl : pgC P n c A i j 30 (vs 30) W)
        rw [e30] at hK ⊢
        have e23 : vs 23 = .bool false := (he ⟨23, .guard⟩ (by simp) rfl : pgC P n c A i j 23 (vs 23) W)
        rw [e23] at hK ⊢
        rw [if_neg (by exact Bool.false_ne_true)]
        exact hK _ _ rfl (Below.refl _ _)
      · simp only [getElem?_toArray, getElem?_cons_zero, getElem?_cons_succ, Option.some.injEq] at ho
        subst ho
        have e23 : vs 23 = .bool false := (he ⟨23, .guard⟩ (by simp) rfl : pgC P n c A i j 23 (vs 23) W)
        rw [e23] at hK ⊢
        rw [if_neg (by exact Bool.false_ne_true)]
        exact hK _ _ rfl (Below.refl _ _)
      · simp only [getElem?_toArray, getElem?_cons_zero, getElem?_cons_succ, Option.some.injEq] at ho
        subst ho
        have e32 : vs 32 = undef := (he ⟨32, .data⟩ (by simp) rfl : pgC P n c A i j 32 (vs 32) W)
        rw [e32] at hK ⊢
        have e23 : vs 23 = .bool false := (he ⟨23, .guard⟩ (by simp) rfl : pgC P n c A i j 23 (vs 23) W)
        rw [e23] at hK ⊢
        rw [if_neg (by exact Bool.false_ne_true)]
        exact hK _ _ rfl (Below.refl _ _)
      · simp only [getElem?_toArray, getElem?_cons_zero, getElem?_cons_succ, Option.some.injEq] at ho
        subst ho
        have e33 : vs 33 = undef := (he ⟨33, .data⟩ (by simp) rfl : pgC P n c A i j 33 (vs 33) W)
        rw [e33] at hK ⊢
        have e23 : vs 23 = .bool false := (he ⟨23, .guard⟩ (by simp) rfl : pgC P n c A i j 23 (vs 23) W)
        rw [e23] at hK ⊢
        rw [if_neg (by exact Bool.false_ne_true)]
        exact hK _ _ rfl (Below.refl _ _)
      · simp only [getElem?_toArray, getElem?_cons_zero, getElem?_cons_succ, Option.some.injEq] at ho
        subst ho
        have e34 : vs 34 = undef := (he ⟨34, .data⟩ (by simp) rfl : pgC P n c A i j 34 (vs 34) W)
        rw [e34] at hK ⊢
        have e23 : vs 23 = .bool false := (he ⟨23, .guard⟩ (by simp) rfl : pgC P n c A i j 23 (vs 23) W)
        rw [e23] at hK ⊢
        rw [if_neg (by exact Bool.false_ne_true)]
        exact hK _ _ rfl (Below.refl _ _)
      · simp only [getElem?_toArray, getElem?_cons_zero, getElem?_cons_succ, Option.some.injEq] at ho
        subst ho
        have e23 : vs 23 = .bool false := (he ⟨23, .guard⟩ (by simp) rfl : pgC P n c A i j 23 (vs 23) W)
        rw [e23] at hK ⊢
        rw [if_neg (by exact Bool.false_ne_true)]
        exact hK _ _ rfl (Below.refl _ _)
      · simp only [getElem?_toArray, getElem?_cons_zero, getElem?_cons_succ, Option.some.injEq] at ho
        subst ho
        have e35 : vs 35 = undef := (he ⟨35, .data⟩ (by simp) rfl : pgC P n c A i j 35 (vs 35) W)
        rw [e35] at hK ⊢
        have e36 : vs 36 = undef := (he ⟨36, .data⟩ (by simp) rfl : pgC P n c A i j 36 (vs 36) W)
        rw [e36] at hK ⊢
        have e23 : vs 23 = .bool false := (he ⟨23, .guard⟩ (by simp) rfl : pgC P n c A i j 23 (vs 23) W)
        rw [e23] at hK ⊢
        rw [if_neg (by exact Bool.false_ne_true)]
        exact hK _ _ rfl (Below.refl _ _)
      · simp only [getElem?_toArray, getElem?_cons_zero, getElem?_cons_succ, Option.some.injEq] at ho
        subst ho
        have e37 : vs 37 = undef := (he ⟨37, .data⟩ (by simp) rfl : pgC P n c A i j 37 (vs 37) W)
        rw [e37] at hK ⊢
        have e23 : vs 23 = .bool false := (he ⟨23, .guard⟩ (by simp) rfl : pgC P n c A i j 23 (vs 23) W)
        rw [e23] at hK ⊢
        rw [if_neg (by exact Bool.false_ne_true)]
        exact hK _ _ rfl (Below.refl _ _)
      · simp only [getElem?_toArray, getElem?_cons_zero, getElem?_cons_succ, Option.some.injEq] at ho
        subst ho
        have e38 : vs 38 = undef := (he ⟨38, .data⟩ (by simp) rfl : pgC P n c A i j 38 (vs 38) W)
        rw [e38] at hK ⊢
        have e23 : vs 23 = .bool false := (he ⟨23, .guard⟩ (by simp) rfl : pgC P n c A i j 23 (vs 23) W)
        rw [e23] at hK ⊢
        rw [if_neg (by exact Bool.false_ne_true)]
        exact hK _ _ rfl (Below.refl _ _)
      · simp only [getElem?_toArray, getElem?_cons_zero, getElem?_cons_succ, Option.some.injEq] at ho
        subst ho
        have e31 : vs 31 = undef := (he ⟨31, .data⟩ (by simp) rfl : pgC P n c A i j 31 (vs 31) W)
        rw [e31] at hK ⊢
        have e39 : vs 39 = undef := (he ⟨39, .data⟩ (by simp) rfl : pgC P n c A i j 39 (vs 39) W)
        rw [e39] at hK ⊢
        have e23 : vs 23 = .bool false := (he ⟨23, .guard⟩ (by simp) rfl : pgC P n c A i j 23 (vs 23) W)
        rw [e23] at hK ⊢
        rw [if_neg (by exact Bool.false_ne_true)]
        exact hK _ _ rfl (Below.refl _ _)
      · simp only [getElem?_toArray, getElem?_cons_zero, getElem?_cons_succ, Option.some.injEq] at ho
        subst ho
        have e23 : vs 23 = .bool false := (he ⟨23, .data⟩ (by simp) rfl : pgC P n c A i j 23 (vs 23) W)
        rw [e23] at hK ⊢
        have e40 : vs 40 = undef := (he ⟨40, .data⟩ (by simp) rfl : pgC P n c A i j 40 (vs 40) W)
        rw [e40] at hK ⊢
        rw [if_pos (by rfl)]
        simp only [put_someT, setIfInBounds_toArray, set_cons_zero, set_cons_succ] at hK
        have HK := Lib.hid hK
        clear hK he hi hBW
        go_simp
        exact HK.out _ _ (by first | rfl | simp [pgC]) (Below.refl _ _)
      · simp only [getElem?_toArray, getElem?_cons_zero, getElem?_cons_succ, Option.some.injEq] at ho
        subst ho
        have e41 : vs 41 = .bool false := (he ⟨41, .data⟩ (by simp) rfl : pgC P n c A i j 41 (vs 41) W)
        rw [e41] at hK ⊢
        rw [if_pos (by rfl)]
        simp only [put_someT, setIfInBounds_toArray, set_cons_zero, set_cons_succ] at hK
        have HK := Lib.hid hK
        clear hK he hi hBW
        go_simp
        exact HK.out _ _ (by first | rfl | simp [pgC]) (Below.refl _ _)
    · intro vs W hall hBW
      have e42 : vs 42 = .bool false := (hall 42 (by decide) : pgC P n c A i j 42 (vs 42) W)
      simp only [fillV, put_someT, setIfInBounds_toArray, set_cons_zero, set_cons_succ]
      rw [e42]
      have BW := Lib.hid hBW
      clear hall hBW
      go_wp2_with fail
      go_ret
      exact ⟨rfl, BW.out⟩
  obtain ⟨i9, hi9⟩ : ∃ i9 : Nat, i = (i9 : Int) := ⟨i.toNat, by omega⟩
  obtain ⟨j9, hj9⟩ : ∃ j9 : Nat, j = (j9 : Int) := ⟨j.toNat, by omega⟩
  have F1 := Lib.hid (show decide (0 ≤ i ∧ i < (n : Int)) = true from decide_eq_true q1)
  have F2 := Lib.hid (show decide (0 ≤ j ∧ j < (n : Int)) = true from decide_eq_true q2)
  have F3 := Lib.hid q3
  have KI := Lib.hid (show i9 < L.length by have := HN.out; omega)
  have KJ := Lib.hid (show j9 < L.length by have := HN.out; omega)
  have FI := Lib.hid (show 0 ≤ (i9 : Int) ∧ (i9 : Int) < (n : Int) by omega)
  have FJ := Lib.hid (show 0 ≤ (j9 : Int) ∧ (j9 : Int) < (n : Int) by omega)
  obtain ⟨b, o, hA, hrest⟩ := HRD.out.cells KI.out
  clear hrest
  obtain ⟨x, hx⟩ : ∃ x, L[i9].pk = x := ⟨_, rfl⟩
  obtain ⟨y, hy⟩ : ∃ y, L[j9].pk = y := ⟨_, rfl⟩
  have EX := Lib.hid hx
  have EY := Lib.hid hy
  have OBX := Lib.hid (fun W (hb : Below w.heap.size w W) => show Calls Tryz.prog 178 #[x.val, y.val] W fun r w' => r = .returned (.bool (x.obs.any fun d => meetsN y.ownD d)) ∧ Below W.heap.size W w' from hx ▸ hy ▸ OB.out i9 j9 KI.out KJ.out W hb)
  obtain ⟨ob, hob⟩ : ∃ ob, (x.obs.any fun d => meetsN y.ownD d) = ob := ⟨_, rfl⟩
  have EO := Lib.hid hob
  have ER := Lib.hid (show obsP L i j = ob by unfold obsP; rw [← HN.out, decide_eq_true q1, decide_eq_true q2, decide_eq_true (show i ≠ j from q3), hi9, hj9, ← hob, ← hx, ← hy]; simp [Int.toNat_natCast, List.getElem?_eq_getElem KI.out, List.getElem?_eq_getElem KJ.out]; try rfl)
  subst hA
  subst hi9
  subst hj9
  clear q1 q2 q3 hx hy hob
  rw [ER.out]
  go_enter Tryz.func133, Tryz.ntmps133
  go_wp2_with fail
  refine wp_region_vals (PP := pgD P n c (some ⟨b, o, none⟩) (i9 : Int) (j9 : Int) b o i9 j9 x y ob) rfl (by kernel_rfl) (by decide) (pgD_mono P n c (some ⟨b, o, none⟩) (i9 : Int) (j9 : Int) b o i9 j9 x y ob) (fun i => if i = 42 then .bool false else undef) (by simp [fillV, put_someT, setIfInBounds_toArray, set_cons_zero, set_cons_succ]) ?_ ?_
  · intro i o vs W hi ho he hBW K hK
    simp only [fillV, put_someT, setIfInBounds_toArray, set_cons_zero, set_cons_succ] at hK ⊢
    have BW := Lib.hid hBW
    have C0W := Lib.hid ((hBW.cell (p := ⟨P, 0, none⟩) HLT.out).trans C0.out)
    have XW := Lib.hid (pr_cells (HRD.out.below hBW) KI.out rfl EX.out)
    have YW := Lib.hid (pr_cells (HRD.out.below hBW) KJ.out rfl EY.out)
    obtain rfl | rfl | rfl | rfl | rfl | rfl | rfl | rfl | rfl | rfl | rfl | rfl | rfl | rfl | rfl | rfl | rfl | rfl | rfl | rfl | rfl | rfl | rfl | rfl | rfl | rfl | rfl | rfl | rfl | rfl | rfl | rfl | rfl | rfl | rfl | rfl | rfl | rfl | rfl | rfl | rfl | rfl | rfl := (show i = 0 ∨ i = 1 ∨ i = 2 ∨ i = 3 ∨ i = 4 ∨ i = 5 ∨ i = 6 ∨ i = 7 ∨ i = 8 ∨ i = 9 ∨ i = 10 ∨ i = 11 ∨ i = 12 ∨ i = 13 ∨ i = 14 ∨ i = 15 ∨ i = 16 ∨ i = 17 ∨ i = 18 ∨ i = 19 ∨ i = 20 ∨ i = 21 ∨ i = 22 ∨ i = 23 ∨ i = 24 ∨ i = 25 ∨ i = 26 ∨ i = 27 ∨ i = 28 ∨ i = 29 ∨ i = 30 ∨ i = 31 ∨ i = 32 ∨ i = 33 ∨ i = 34 ∨ i = 35 ∨ i = 36 ∨ i = 37 ∨ i = 38 ∨ i = 39 ∨ i = 40 ∨ i = 41 ∨ i = 42 by exact (by have : i < 43 := hi; omega))
    · simp only [getElem?_toArray, getElem?_cons_zero, getElem?_cons_succ, Option.some.injEq] at ho
      subst ho
      rw [if_pos (by rfl)]
      simp only [put_someT, setIfInBounds_toArray, set_cons_zero, set_cons_succ] at hK
      have HK := Lib.hid hK
      clear hK he hi hBW
      go_simp
      exact HK.out _ _ (by first | rfl | simp [pgD]) (Below.refl _ _)
    · simp only [getElem?_toArray, getElem?_cons_zero, getElem?_cons_succ, Option.some.injEq] at ho
      subst ho
      have e0 : vs 0 = .pointer (some ⟨P, 0, none⟩) := (he ⟨0, .data⟩ (by simp) rfl : pgD P n c (some ⟨b, o, none⟩) (i9 : Int) (j9 : Int) b o i9 j9 x y ob 0 (vs 0) W)
      rw [e0] at hK ⊢
      rw [if_pos (by rfl)]
      simp only [put_someT, setIfInBounds_toArray, set_cons_zero, set_cons_succ] at hK
      have HK := Lib.hid hK
      clear hK he hi hBW
      go_simp
      exact HK.out _ _ rfl (Below.refl _ _)
    · simp only [getElem?_toArray, getElem?_cons_zero, getElem?_cons_succ, Option.some.injEq] at ho
      subst ho
      have e1 : vs 1 = .bool true := (he ⟨1, .data⟩ (by simp) rfl : pgD P n c (some ⟨b, o, none⟩) (i9 : Int) (j9 : Int) b o i9 j9 x y ob 1 (vs 1) W)
      rw [e1] at hK ⊢
      rw [if_pos (by rfl)]
      simp only [put_someT, setIfInBounds_toArray, set_cons_zero, set_cons_succ] at hK
      have HK := Lib.hid hK
      clear hK he hi hBW
      go_simp
      exact HK.out _ _ (by first | rfl | simp [pgD]) (Below.refl _ _)
    · simp only [getElem?_toArray, getElem?_cons_zero, getElem?_cons_succ, Option.some.injEq] at ho
      subst ho
      have e2 : vs 2 = .bool true := (he ⟨2, .guard⟩ (by simp) rfl : pgD P n c (some ⟨b, o, none⟩) (i9 : Int) (j9 : Int) b o i9 j9 x y ob 2 (vs 2) W)
      rw [e2] at hK ⊢
      rw [if_pos (by rfl)]
      simp only [put_someT, setIfInBounds_toArray, set_cons_zero, set_cons_succ] at hK
      have HK := Lib.hid hK
      clear hK he hi hBW
      go_simp
      exact HK.out _ _ (by first | rfl | simp [pgD]) (Below.refl _ _)
    · simp only [getElem?_toArray, getElem?_cons_zero, getElem?_cons_succ, Option.some.injEq] at ho
      subst ho
      have e3 : vs 3 = .pointer (some ⟨P, 0, none⟩) := (he ⟨3, .data⟩ (by simp) rfl : pgD P n c (some ⟨b, o, none⟩) (i9 : Int) (j9 : Int) b o i9 j9 x y ob 3 (vs 3) W)
      rw [e3] at hK ⊢
      have e2 : vs 2 = .bool true := (he ⟨2, .guard⟩ (by simp) rfl : pgD P n c (some ⟨b, o, none⟩) (i9 : Int) (j9 : Int) b o i9 j9 x y ob 2 (vs 2) W)
      rw [e2] at hK ⊢
      rw [if_pos (by rfl)]
      simp only [put_someT, setIfInBounds_toArray, set_cons_zero, set_cons_succ] at hK
      have HK := Lib.hid hK
      clear hK he hi hBW
      go_simp
      exact HK.out _ _ (by first | rfl | simp [pgD]) (Below.refl _ _)
    · simp only [getElem?_toArray, getElem?_cons_zero, getElem?_cons_succ, Option.some.injEq] at ho
      subst ho
      have e4 : vs 4 = .pointer (some ⟨P, 0, none⟩) := (he ⟨4, .data⟩ (by simp) rfl : pgD P n c (some ⟨b, o, none⟩) (i9 : Int) (j9 : Int) b o i9 j9 x y ob 4 (vs 4) W)
      rw [e4] at hK ⊢
      have e2 : vs 2 = .bool true := (he ⟨2, .guard⟩ (by simp) rfl : pgD P n c (some ⟨b, o, none⟩) (i9 : Int) (j9 : Int) b o i9 j9 x y ob 2 (vs 2) W)
      rw [e2] at hK ⊢
      rw [if_pos (by rfl)]
      simp only [put_someT, setIfInBounds_toArray, set_cons_zero, set_cons_succ] at hK
      have HK := Lib.hid hK
      clear hK he hi hBW
      go_simp
      exact HK.out _ _ (by first | rfl | simp [pgD]) (Below.refl _ _)
    · simp only [getElem?_toArray, getElem?_cons_zero, getElem?_cons_succ, Option.some.injEq] at ho
      subst ho
      have e5 : vs 5 = .pointer (some ⟨P, 0, none⟩) := (he ⟨5, .data⟩ (by simp) rfl : pgD P n c (some ⟨b, o, none⟩) (i9 : Int) (j9 : Int) b o i9 j9 x y ob 5 (vs 5) W)
      rw [e5] at hK ⊢
      have e2 : vs 2 = .bool true := (he ⟨2, .guard⟩ (by simp) rfl : pgD P n c (some ⟨b, o, none⟩) (i9 : Int) (j9 : Int) b o i9 j9 x y ob 2 (vs 2) W)
      rw [e2] at hK ⊢
      rw [if_pos (by rfl)]
      simp only [put_someT, setIfInBounds_toArray, set_cons_zero, set_cons_succ] at hK
      have HK := Lib.hid hK
      clear hK he hi hBW
      have c0 := C0W.out
      go_simp
      exact HK.out _ _ rfl (Below.refl _ _)
    · simp only [getElem?_toArray, getElem?_cons_zero, getElem?_cons_succ, Option.some.injEq] at ho
      subst ho
      have e2 : vs 2 = .bool true := (he ⟨2, .guard⟩ (by simp) rfl : pgD P n c (some ⟨b, o, none⟩) (i9 : Int) (j9 : Int) b o i9 j9 x y ob 2 (vs 2) W)
      rw [e2] at hK ⊢
      rw [if_pos (by rfl)]
      simp only [put_someT, setIfInBounds_toArray, set_cons_zero, set_cons_succ] at hK
      have HK := Lib.hid hK
      clear hK he hi hBW
      go_simp
      exact HK.out _ _ (by first | rfl | simp [pgD]) (Below.refl _ _)
    · simp only [getElem?_toArray, getElem?_cons_zero, getElem?_cons_succ, Option.some.injEq] at ho
      subst ho
      have e6 : vs 6 = .slice (some ⟨b, o, none⟩) n c := (he ⟨6, .data⟩ (by simp) rfl : pgD P n c (some ⟨b, o, none⟩) (i9 : Int) (j9 : Int) b o i9 j9 x y ob 6 (vs 6) W)
      rw [e6] at hK ⊢
      have e7 : vs 7 = .int .i64 (i9 : Int) := (he ⟨7, .data⟩ (by simp) rfl : pgD P n c (some ⟨b, o, none⟩) (i9 : Int) (j9 : Int) b o i9 j9 x y ob 7 (vs 7) W)
      rw [e7] at hK ⊢
      have e2 : vs 2 = .bool true := (he ⟨2, .guard⟩ (by simp) rfl : pgD P n c (some ⟨b, o, none⟩) (i9 : Int) (j9 : Int) b o i9 j9 x y ob 2 (vs 2) W)
      rw [e2] at hK ⊢
      rw [if_pos (by rfl)]
      simp only [put_someT, setIfInBounds_toArray, set_cons_zero, set_cons_succ] at hK
      have HK := Lib.hid hK
      clear hK he hi hBW
      go_simp
      go_at_call 102
      refine (IS.out (i9 : Int) _ c W).mono ?_
      rintro en w9 ⟨rfl, h⟩
      rw [F1.out]
      go_simp
      exact HK.out _ _ rfl h
    · simp only [getElem?_toArray, getElem?_cons_zero, getElem?_cons_succ, Option.some.injEq] at ho
      subst ho
      have e2 : vs 2 = .bool true := (he ⟨2, .data⟩ (by simp) rfl : pgD P n c (some ⟨b, o, none⟩) (i9 : Int) (j9 : Int) b o i9 j9 x y ob 2 (vs 2) W)
      rw [e2] at hK ⊢
      have e8 : vs 8 = .bool true := (he ⟨8, .data⟩ (by simp) rfl : pgD P n c (some ⟨b, o, none⟩) (i9 : Int) (j9 : Int) b o i9 j9 x y ob 8 (vs 8) W)
      rw [e8] at hK ⊢
      rw [if_pos (by rfl)]
      simp only [put_someT, setIfInBounds_toArray, set_cons_zero, set_cons_succ] at hK
      have HK := Lib.hid hK
      clear hK he hi hBW
      go_simp
      exact HK.out _ _ (by first | rfl | simp [pgD]) (Below.refl _ _)
    · simp only [getElem?_toArray, getElem?_cons_zero, getElem?_cons_succ, Option.some.injEq] at ho
      subst ho
      have e9 : vs 9 = .bool true := (he ⟨9, .data⟩ (by simp) rfl : pgD P n c (some ⟨b, o, none⟩) (i9 : Int) (j9 : Int) b o i9 j9 x y ob 9 (vs 9) W)
      rw [e9] at hK ⊢
      rw [if_pos (by rfl)]
      simp only [put_someT, setIfInBounds_toArray, set_cons_zero, set_cons_succ] at hK
      have HK := Lib.hid hK
      clear hK he hi hBW
      go_simp
      exact HK.out _ _ (by first | rfl | simp [pgD]) (Below.refl _ _)
    · simp only [getElem?_toArray, getElem?_cons_zero, getElem?_cons_succ, Option.some.injEq] at ho
      subst ho
      have e10 : vs 10 = .bool true := (he ⟨10, .guard⟩ (by simp) rfl : pgD P n c (some ⟨b, o, none⟩) (i9 : Int) (j9 : Int) b o i9 j9 x y ob 10 (vs 10) W)
      rw [e10] at hK ⊢
      rw [if_pos (by rfl)]
      simp only [put_someT, setIfInBounds_toArray, set_cons_zero, set_cons_succ] at hK
      have HK := Lib.hid hK
      clear hK he hi hBW
      go_simp
      exact HK.out _ _ (by first | rfl | simp [pgD]) (Below.refl _ _)
    · simp only [getElem?_toArray, getElem?_cons_zero, getElem?_cons_succ, Option.some.injEq] at ho
      subst ho
      have e11 : vs 11 = .pointer (some ⟨P, 0, none⟩) := (he ⟨11, .data⟩ (by simp) rfl : pgD P n c (some ⟨b, o, none⟩) (i9 : Int) (j9 : Int) b o i9 j9 x y ob 11 (vs 11) W)
      rw [e11] at hK ⊢
      have e10 : vs 10 = .bool true := (he ⟨10, .guard⟩ (by simp) rfl : pgD P n c (some ⟨b, o, none⟩) (i9 : Int) (j9 : Int) b o i9 j9 x y ob 10 (vs 10) W)
      rw [e10] at hK ⊢
      rw [if_pos (by rfl)]
      simp only [put_someT, setIfInBounds_toArray, set_cons_zero, set_cons_succ] at hK
      have HK := Lib.hid hK
      clear hK he hi hBW
      go_simp
      exact HK.out _ _ (by first | rfl | simp [pgD]) (Below.refl _ _)
    · simp only [getElem?_toArray, getElem?_cons_zero, getElem?_cons_succ, Option.some.injEq] at ho
      subst ho
      have e12 : vs 12 = .pointer (some ⟨P, 0, none⟩) := (he ⟨12, .data⟩ (by simp) rfl : pgD P n c (some ⟨b, o, none⟩) (i9 : Int) (j9 : Int) b o i9 j9 x y ob 12 (vs 12) W)
      rw [e12] at hK ⊢
      have e10 : vs 10 = .bool true := (he ⟨10, .guard⟩ (by simp) rfl : pgD P n c (some ⟨b, o, none⟩) (i9 : Int) (j9 : Int) b o i9 j9 x y ob 10 (vs 10) W)
      rw [e10] at hK ⊢
      rw [if_pos (by rfl)]
      simp only [put_someT, setIfInBounds_toArray, set_cons_zero, set_cons_succ] at hK
      have HK := Lib.hid hK
      clear hK he hi hBW
      go_simp
      exact HK.out _ _ (by first | rfl | simp [pgD]) (Below.refl _ _)
    · simp only [getElem?_toArray, getElem?_cons_zero, getElem?_cons_succ, Option.some.injEq] at ho
      subst ho
      have e13 : vs 13 = .pointer (some ⟨P, 0, none⟩) := (he ⟨13, .data⟩ (by simp) rfl : pgD P n c (some ⟨b, o, none⟩) (i9 : Int) (j9 : Int) b o i9 j9 x y ob 13 (vs 13) W)
      rw [e13] at hK ⊢
      have e10 : vs 10 = .bool true := (he ⟨10, .guard⟩ (by simp) rfl : pgD P n c (some ⟨b, o, none⟩) (i9 : Int) (j9 : Int) b o i9 j9 x y ob 10 (vs 10) W)
      rw [e10] at hK ⊢
      rw [if_pos (by rfl)]
      simp only [put_someT, setIfInBounds_toArray, set_cons_zero, set_cons_succ] at hK
      have HK := Lib.hid hK
      clear hK he hi hBW
      have c0 := C0W.out
      go_simp
      exact HK.out _ _ rfl (Below.refl _ _)
    · simp only [getElem?_toArray, getElem?_cons_zero, getElem?_cons_succ, Option.some.injEq] at ho
      subst ho
      have e10 : vs 10 = .bool true := (he ⟨10, .guard⟩ (by simp) rfl : pgD P n c (some ⟨b, o, none⟩) (i9 : Int) (j9 : Int) b o i9 j9 x y ob 10 (vs 10) W)
      rw [e10] at hK ⊢
      rw [if_pos (by rfl)]
      simp only [put_someT, setIfInBounds_toArray, set_cons_zero, set_cons_succ] at hK
      have HK := Lib.hid hK
      clear hK he hi hBW
      go_simp
      exact HK.out _ _ (by first | rfl | simp [pgD]) (Below.refl _ _)
    · simp only [getElem?_toArray, getElem?_cons_zero, getElem?_cons_succ, Option.some.injEq] at ho
      subst ho
      have e14 : vs 14 = .slice (some ⟨b, o, none⟩) n c := (he ⟨14, .data⟩ (by simp) rfl : pgD P n c (some ⟨b, o, none⟩) (i9 : Int) (j9 : Int) b o i9 j9 x y ob 14 (vs 14) W)
      rw [e14] at hK ⊢
      have e15 : vs 15 = .int .i64 (j9 : Int) := (he ⟨15, .data⟩ (by simp) rfl : pgD P n c (some ⟨b, o, none⟩) (i9 : Int) (j9 : Int) b o i9 j9 x y ob 15 (vs 15) W)
      rw [e15] at hK ⊢
      have e10 : vs 10 = .bool true := (he ⟨10, .guard⟩ (by simp) rfl : pgD P n c (some ⟨b, o, none⟩) (i9 : Int) (j9 : Int) b o i9 j9 x y ob 10 (vs 10) W)
      rw [e10] at hK ⊢
      rw [if_pos (by rfl)]
      simp only [put_someT, setIfInBounds_toArray, set_cons_zero, set_cons_succ] at hK
      have HK := Lib.hid hK
      clear hK he hi hBW
      go_simp
      go_at_call 102
      refine (IS.out (j9 : Int) _ c W).mono ?_
      rintro en w9 ⟨rfl, h⟩
      rw [F2.out]
      go_simp
      exact HK.out _ _ rfl h
    · simp only [getElem?_toArray, getElem?_cons_zero, getElem?_cons_succ, Option.some.injEq] at ho
      subst ho
      have e10 : vs 10 = .bool true := (he ⟨10, .data⟩ (by simp) rfl : pgD P n c (some ⟨b, o, none⟩) (i9 : Int) (j9 : Int) b o i9 j9 x y ob 10 (vs 10) W)
      rw [e10] at hK ⊢
      have e16 : vs 16 = .bool true := (he ⟨16, .data⟩ (by simp) rfl : pgD P n c (some ⟨b, o, none⟩) (i9 : Int) (j9 : Int) b o i9 j9 x y ob 16 (vs 16) W)
      rw [e16] at hK ⊢
      rw [if_pos (by rfl)]
      simp only [put_someT, setIfInBounds_toArray, set_cons_zero, set_cons_succ] at hK
      have HK := Lib.hid hK
      clear hK he hi hBW
      go_simp
      exact HK.out _ _ (by first | rfl | simp [pgD]) (Below.refl _ _)
    · simp only [getElem?_toArray, getElem?_cons_zero, getElem?_cons_succ, Option.some.injEq] at ho
      subst ho
      have e17 : vs 17 = .bool true := (he ⟨17, .data⟩ (by simp) rfl : pgD P n c (some ⟨b, o, none⟩) (i9 : Int) (j9 : Int) b o i9 j9 x y ob 17 (vs 17) W)
      rw [e17] at hK ⊢
      rw [if_pos (by rfl)]
      simp only [put_someT, setIfInBounds_toArray, set_cons_zero, set_cons_succ] at hK
      have HK := Lib.hid hK
      clear hK he hi hBW
      go_simp
      exact HK.out _ _ (by first | rfl | simp [pgD]) (Below.refl _ _)
    · simp only [getElem?_toArray, getElem?_cons_zero, getElem?_cons_succ, Option.some.injEq] at ho
      subst ho
      have e18 : vs 18 = .bool true := (he ⟨18, .guard⟩ (by simp) rfl : pgD P n c (some ⟨b, o, none⟩) (i9 : Int) (j9 : Int) b o i9 j9 x y ob 18 (vs 18) W)
      rw [e18] at hK ⊢
      rw [if_pos (by rfl)]
      simp only [put_someT, setIfInBounds_toArray, set_cons_zero, set_cons_succ] at hK
      have HK := Lib.hid hK
      clear hK he hi hBW
      go_simp
      exact HK.out _ _ (by first | rfl | simp [pgD]) (Below.refl _ _)
    · simp only [getElem?_toArray, getElem?_cons_zero, getElem?_cons_succ, Option.some.injEq] at ho
      subst ho
      have e18 : vs 18 = .bool true := (he ⟨18, .guard⟩ (by simp) rfl : pgD P n c (some ⟨b, o, none⟩) (i9 : Int) (j9 : Int) b o i9 j9 x y ob 18 (vs 18) W)
      rw [e18] at hK ⊢
      rw [if_pos (by rfl)]
      simp only [put_someT, setIfInBounds_toArray, set_cons_zero, set_cons_succ] at hK
      have HK := Lib.hid hK
      clear hK he hi hBW
      go_simp
      exact HK.out _ _ (by first | rfl | simp [pgD]) (Below.refl _ _)
    · simp only [getElem?_toArray, getElem?_cons_zero, getElem?_cons_succ, Option.some.injEq] at ho
      subst ho
      have e19 : vs 19 = .int .i64 (i9 : Int) := (he ⟨19, .data⟩ (by simp) rfl : pgD P n c (some ⟨b, o, none⟩) (i9 : Int) (j9 : Int) b o i9 j9 x y ob 19 (vs 19) W)
      rw [e19] at hK ⊢
      have e20 : vs 20 = .int .i64 (j9 : Int) := (he ⟨20, .data⟩ (by simp) rfl : pgD P n c (some ⟨b, o, none⟩) (i9 : Int) (j9 : Int) b o i9 j9 x y ob 20 (vs 20) W)
      rw [e20] at hK ⊢
      have e18 : vs 18 = .bool true := (he ⟨18, .guard⟩ (by simp) rfl : pgD P n c (some ⟨b, o, none⟩) (i9 : Int) (j9 : Int) b o i9 j9 x y ob 18 (vs 18) W)
      rw [e18] at hK ⊢
      rw [if_pos (by rfl)]
      simp only [put_someT, setIfInBounds_toArray, set_cons_zero, set_cons_succ] at hK
      have HK := Lib.hid hK
      clear hK he hi hBW
      go_simp
      have f3 := F3.out
      exact HK.out _ _ (by simp [pgD, f3]) (Below.refl _ _)
    · simp only [getElem?_toArray, getElem?_cons_zero, getElem?_cons_succ, Option.some.injEq] at ho
      subst ho
      have e18 : vs 18 = .bool true := (he ⟨18, .data⟩ (by simp) rfl : pgD P n c (some ⟨b, o, none⟩) (i9 : Int) (j9 : Int) b o i9 j9 x y ob 18 (vs 18) W)
      rw [e18] at hK ⊢
      have e21 : vs 21 = .bool true := (he ⟨21, .data⟩ (by simp) rfl : pgD P n c (some ⟨b, o, none⟩) (i9 : Int) (j9 : Int) b o i9 j9 x y ob 21 (vs 21) W)
      rw [e21] at hK ⊢
      rw [if_pos (by rfl)]
      simp only [put_someT, setIfInBounds_toArray, set_cons_zero, set_cons_succ] at hK
      have HK := Lib.hid hK
      clear hK he hi hBW
      go_simp
      exact HK.out _ _ (by first | rfl | simp [pgD]) (Below.refl _ _)
    · simp only [getElem?_toArray, getElem?_cons_zero, getElem?_cons_succ, Option.some.injEq] at ho
      subst ho
      have e22 : vs 22 = .bool true := (he ⟨22, .data⟩ (by simp) rfl : pgD P n c (some ⟨b, o, none⟩) (i9 : Int) (j9 : Int) b o i9 j9 x y ob 22 (vs 22) W)
      rw [e22] at hK ⊢
      rw [if_pos (by rfl)]
      simp only [put_someT, setIfInBounds_toArray, set_cons_zero, set_cons_succ] at hK
      have HK := Lib.hid hK
      clear hK he hi hBW
      go_simp
      exact HK.out _ _ (by first | rfl | simp [pgD]) (Below.refl _ _)
    · simp only [getElem?_toArray, getElem?_cons_zero, getElem?_cons_succ, Option.some.injEq] at ho
      subst ho
      have e23 : vs 23 = .bool true := (he ⟨23, .guard⟩ (by simp) rfl : pgD P n c (some ⟨b, o, none⟩) (i9 : Int) (j9 : Int) b o i9 j9 x y ob 23 (vs 23) W)
      rw [e23] at hK ⊢
      rw [if_pos (by rfl)]
      simp only [put_someT, setIfInBounds_toArray, set_cons_zero, set_cons_succ] at hK
      have HK := Lib.hid hK
      clear hK he hi hBW
      go_simp
      exact HK.out _ _ (by first | rfl | simp [pgD]) (Below.refl _ _)
    · simp only [getElem?_toArray, getElem?_cons_zero, getElem?_cons_succ, Option.some.injEq] at ho
      subst ho
      have e24 : vs 24 = .pointer (some ⟨P, 0, none⟩) := (he ⟨24, .data⟩ (by simp) rfl : pgD P n c (some ⟨b, o, none⟩) (i9 : Int) (j9 : Int) b o i9 j9 x y ob 24 (vs 24) W)
      rw [e24] at hK ⊢
      have e23 : vs 23 = .bool true := (he ⟨23, .guard⟩ (by simp) rfl : pgD P n c (some ⟨b, o, none⟩) (i9 : Int) (j9 : Int) b o i9 j9 x y ob 23 (vs 23) W)
      rw [e23] at hK ⊢
      rw [if_pos (by rfl)]
      simp only [put_someT, setIfInBounds_toArray, set_cons_zero, set_cons_succ] at hK
      have HK := Lib.hid hK
      clear hK he hi hBW
      go_simp
      exact HK.out _ _ (by first | rfl | simp [pgD]) (Below.refl _ _)
    · simp only [getElem?_toArray, getElem?_cons_zero, getElem?_cons_succ, Option.some.injEq] at ho
      subst ho
      have e25 : vs 25 = .pointer (some ⟨P, 0, none⟩) := (he ⟨25, .data⟩ (by simp) rfl : pgD P n c (some ⟨b, o, none⟩) (i9 : Int) (j9 : Int) b o i9 j9 x y ob 25 (vs 25) W)
      rw [e25] at hK ⊢
      have e23 : vs 23 = .bool true := (he ⟨23, .guard⟩ (by simp) rfl : pgD P n c (some ⟨b, o, none⟩) (i9 : Int) (j9 : Int) b o i9 j9 x y ob 23 (vs 23) W)
      rw [e23] at hK ⊢
      rw [if_pos (by rfl)]
      simp only [put_someT, setIfInBounds_toArray, set_cons_zero, set_cons_succ] at hK
      have HK := Lib.hid hK
      clear hK he hi hBW
      go_simp
      exact HK.out _ _ (by first | rfl | simp [pgD]) (Below.refl _ _)
    · simp only [getElem?_toArray, getElem?_cons_zero, getElem?_cons_succ, Option.some.injEq] at ho
      subst ho
      have e26 : vs 26 = .pointer (some ⟨P, 0, none⟩) := (he ⟨26, .data⟩ (by simp) rfl : pgD P n c (some ⟨b, o, none⟩) (i9 : Int) (j9 : Int) b o i9 j9 x y ob 26 (vs 26) W)
      rw [e26] at hK ⊢
      have e23 : vs 23 = .bool true := (he ⟨23, .guard⟩ (by simp) rfl : pgD P n c (some ⟨b, o, none⟩) (i9 : Int) (j9 : Int) b o i9 j9 x y ob 23 (vs 23) W)
      rw [e23] at hK ⊢
      rw [if_pos (by rfl)]
      simp only [put_someT, setIfInBounds_toArray, set_cons_zero, set_cons_succ] at hK
      have HK := Lib.hid hK
      clear hK he hi hBW
      have c0 := C0W.out
      go_simp
      exact HK.out _ _ rfl (Below.refl _ _)
    · simp only [getElem?_toArray, getElem?_cons_zero, getElem?_cons_succ, Option.some.injEq] at ho
      subst ho
      have e23 : vs 23 = .bool true := (he ⟨23, .guard⟩ (by simp) rfl : pgD P n c (some ⟨b, o, none⟩) (i9 : Int) (j9 : Int) b o i9 j9 x y ob 23 (vs 23) W)
      rw [e23] at hK ⊢
      rw [if_pos (by rfl)]
      simp only [put_someT, setIfInBounds_toArray, set_cons_zero, set_cons_succ] at hK
      have HK := Lib.hid hK
      clear hK he hi hBW
      go_simp
      exact HK.out _ _ (by first | rfl | simp [pgD]) (Below.refl _ _)
    · simp only [getElem?_toArray, getElem?_cons_zero, getElem?_cons_succ, Option.some.injEq] at ho
      subst ho
      have e27 : vs 27 = .slice (some ⟨b, o, none⟩) n c := (he ⟨27, .data⟩ (by simp) rfl : pgD P n c (some ⟨b, o, none⟩) (i9 : Int) (j9 : Int) b o i9 j9 x y ob 27 (vs 27) W)
      rw [e27] at hK ⊢
      have e28 : vs 28 = .int .i64 (i9 : Int) := (he ⟨28, .data⟩ (by simp) rfl : pgD P n c (some ⟨b, o, none⟩) (i9 : Int) (j9 : Int) b o i9 j9 x y ob 28 (vs 28) W)
      rw [e28] at hK ⊢
      have e23 : vs 23 = .bool true := (he ⟨23, .guard⟩ (by simp) rfl : pgD P n c (some ⟨b, o, none⟩) (i9 : Int) (j9 : Int) b o i9 j9 x y ob 23 (vs 23) W)
      rw [e23] at hK ⊢
      rw [if_pos (by rfl)]
      simp only [put_someT, setIfInBounds_toArray, set_cons_zero, set_cons_succ] at hK
      have HK := Lib.hid hK
      clear hK he hi hBW
      have fi := FI.out.1
      have fi2 := FI.out.2
      go_simp
      exact HK.out _ _ (by simp [pgD]) (Below.refl _ _)
    · simp only [getElem?_toArray, getElem?_cons_zero, getElem?_cons_succ, Option.some.injEq] at ho
      subst ho
      have e29 : vs 29 = .pointer (some ⟨b, o + i9 * 17, none⟩) := (he ⟨29, .data⟩ (by simp) rfl : pgD P n c (some ⟨b, o, none⟩) (i9 : Int) (j9 : Int) b o i9 j9 x y ob 29 (vs 29) W)
      rw [e29] at hK ⊢
      have e23 : vs 23 = .bool true := (he ⟨23, .guard⟩ (by simp) rfl : pgD P n c (some ⟨b, o, none⟩) (i9 : Int) (j9 : Int) b o i9 j9 x y ob 23 (vs 23) W)
      rw [e23] at hK ⊢
      rw [if_pos (by rfl)]
      simp only [put_someT, setIfInBounds_toArray, set_cons_zero, set_cons_succ] at hK
      have HK := Lib.hid hK
      clear hK he hi hBW
      go_simp
      exact HK.out _ _ (by first | rfl | simp [pgD]) (Below.refl _ _)
    · simp only [getElem?_toArray, getElem?_cons_zero, getElem?_cons_succ, Option.some.injEq] at ho
      subst ho
      have e30 : vs 30 = .pointer (some ⟨b, o + i9 * 17, none⟩) := (he ⟨30, .data⟩ (by simp) rfl : pgD P n c (some ⟨b, o, none⟩) (i9 : Int) (j9 : Int) b o i9 j9 x y ob 30 (vs 30) W)
      rw [e30] at hK ⊢
      have e23 : vs 23 = .bool true := (he ⟨23, .guard⟩ (by simp) rfl : pgD P n c (some ⟨b, o, none⟩) (i9 : Int) (j9 : Int) b o i9 j9 x y ob 23 (vs 23) W)
      rw [e23] at hK ⊢
      rw [if_pos (by rfl)]
      simp only [put_someT, setIfInBounds_toArray, set_cons_zero, set_cons_succ] at hK
      have HK := Lib.hid hK
      clear hK he hi hBW
      obtain ⟨d0, d1, d2, d3, d4, d5, d6, d7, d8, d9, d10, d11, d12, d13, d14⟩ := XW.out
      go_simp
      exact HK.out _ _ rfl (Below.refl _ _)
    · simp only [getElem?_toArray, getElem?_cons_zero, getElem?_cons_succ, Option.some.injEq] at ho
      subst ho
      have e23 : vs 23 = .bool true := (he ⟨23, .guard⟩ (by simp) rfl : pgD P n c (some ⟨b, o, none⟩) (i9 : Int) (j9 : Int) b o i9 j9 x y ob 23 (vs 23) W)
      rw [e23] at hK ⊢
      rw [if_pos (by rfl)]
      simp only [put_someT, setIfInBounds_toArray, set_cons_zero, set_cons_succ] at hK
      have HK := Lib.hid hK
      clear hK he hi hBW
      go_simp
      exact HK.out _ _ (by first | rfl | simp [pgD]) (Below.refl _ _)
    · simp only [getElem?_toArray, getElem?_cons_zero, getElem?_cons_succ, Option.some.injEq] at ho
      subst ho
      have e32 : vs 32 = .pointer (some ⟨P, 0, none⟩) := (he ⟨32, .data⟩ (by simp) rfl : pgD P n c (some ⟨b, o, none⟩) (i9 : Int) (j9 : Int) b o i9 j9 x y ob 32 (vs 32) W)
      rw [e32] at hK ⊢
      have e23 : vs 23 = .bool true := (he ⟨23, .guard⟩ (by simp) rfl : pgD P n c (some ⟨b, o, none⟩) (i9 : Int) (j9 : Int) b o i9 j9 x y ob 23 (vs 23) W)
      rw [e23] at hK ⊢
      rw [if_pos (by rfl)]
      simp only [put_someT, setIfInBounds_toArray, set_cons_zero, set_cons_succ] at hK
      have HK := Lib.hid hK
      clear hK he hi hBW
      go_simp
      exact HK.out _ _ (by first | rfl | simp [pgD]) (Below.refl _ _)
    · simp only [getElem?_toArray, getElem?_cons_zero, getElem?_cons_succ, Option.some.injEq] at ho
      subst ho
      have e33 : vs 33 = .pointer (some ⟨P, 0, none⟩) := (he ⟨33, .data⟩ (by simp) rfl : pgD P n c (some ⟨b, o, none⟩) (i9 : Int) (j9 : Int) b o i9 j9 x y ob 33 (vs 33) W)
      rw [e33] at hK ⊢
      have e23 : vs 23 = .bool true := (he ⟨23, .guard⟩ (by simp) rfl : pgD P n c (some ⟨b, o, none⟩) (i9 : Int) (j9 : Int) b o i9 j9 x y ob 23 (vs 23) W)
      rw [e23] at hK ⊢
      rw [if_pos (by rfl)]
      simp only [put_someT, setIfInBounds_toArray, set_cons_zero, set_cons_succ] at hK
      have HK := Lib.hid hK
      clear hK he hi hBW
      go_simp
      exact HK.out _ _ (by first | rfl | simp [pgD]) (Below.refl _ _)
    · simp only [getElem?_toArray, getElem?_cons_zero, getElem?_cons_succ, Option.some.injEq] at ho
      subst ho
      have e34 : vs 34 = .pointer (some ⟨P, 0, none⟩) := (he ⟨34, .data⟩ (by simp) rfl : pgD P n c (some ⟨b, o, none⟩) (i9 : Int) (j9 : Int) b o i9 j9 x y ob 34 (vs 34) W)
      rw [e34] at hK ⊢
      have e23 : vs 23 = .bool true := (he ⟨23, .guard⟩ (by simp) rfl : pgD P n c (some ⟨b, o, none⟩) (i9 : Int) (j9 : Int) b o i9 j9 x y ob 23 (vs 23) W)
      rw [e23] at hK ⊢
      rw [if_pos (by rfl)]
      simp only [put_someT, setIfInBounds_toArray, set_cons_zero, set_cons_succ] at hK
      have HK := Lib.hid hK
      clear hK he hi hBW
      have c0 := C0W.out
      go_simp
      exact HK.out _ _ rfl (Below.refl _ _)
    · simp only [getElem?_toArray, getElem?_cons_zero, getElem?_cons_succ, Option.some.injEq] at ho
      subst ho
      have e23 : vs 23 = .bool true := (he ⟨23, .guard⟩ (by simp) rfl : pgD P n c (some ⟨b, o, none⟩) (i9 : Int) (j9 : Int) b o i9 j9 x y ob 23 (vs 23) W)
      rw [e23] at hK ⊢
      rw [if_pos (by rfl)]
      simp only [put_someT, setIfInBounds_toArray, set_cons_zero, set_cons_succ] at hK
      have HK := Lib.hid hK
      clear hK he hi hBW
      go_simp
      exact HK.out _ _ (by first | rfl | simp [pgD]) (Below.refl _ _)
    · simp only [getElem?_toArray, getElem?_cons_zero, getElem?_cons_succ, Option.some.injEq] at ho
      subst ho
      have e35 : vs 35 = .slice (some ⟨b, o, none⟩) n c := (he ⟨35, .data⟩ (by simp) rfl : pgD P n c (some ⟨b, o, none⟩) (i9 : Int) (j9 : Int) b o i9 j9 x y ob 35 (vs 35) W)
      rw [e35] at hK ⊢
      have e36 : vs 36 = .int .i64 (j9 : Int) := (he ⟨36, .data⟩ (by simp) rfl : pgD P n c (some ⟨b, o, none⟩) (i9 : Int) (j9 : Int) b o i9 j9 x y ob 36 (vs 36) W)
      rw [e36] at hK ⊢
      have e23 : vs 23 = .bool true := (he ⟨23, .guard⟩ (by simp) rfl : pgD P n c (some ⟨b, o, none⟩) (i9 : Int) (j9 : Int) b o i9 j9 x y ob 23 (vs 23) W)
      rw [e23] at hK ⊢
      rw [if_pos (by rfl)]
      simp only [put_someT, setIfInBounds_toArray, set_cons_zero, set_cons_succ] at hK
      have HK := Lib.hid hK
      clear hK he hi hBW
      have fj := FJ.out.1
      have fj2 := FJ.out.2
      go_simp
      exact HK.out _ _ (by simp [pgD]) (Below.refl _ _)
    · simp only [getElem?_toArray, getElem?_cons_zero, getElem?_cons_succ, Option.some.injEq] at ho
      subst ho
      have e37 : vs 37 = .pointer (some ⟨b, o + j9 * 17, none⟩) := (he ⟨37, .data⟩ (by simp) rfl : pgD P n c (some ⟨b, o, none⟩) (i9 : Int) (j9 : Int) b o i9 j9 x y ob 37 (vs 37) W)
      rw [e37] at hK ⊢
      have e23 : vs 23 = .bool true := (he ⟨23, .guard⟩ (by simp) rfl : pgD P n c (some ⟨b, o, none⟩) (i9 : Int) (j9 : Int) b o i9 j9 x y ob 23 (vs 23) W)
      rw [e23] at hK ⊢
      rw [if_pos (by rfl)]
      simp only [put_someT, setIfInBounds_toArray, set_cons_zero, set_cons_succ] at hK
      have HK := Lib.hid hK
      clear hK he hi hBW
      go_simp
      exact HK.out _ _ (by first | rfl | simp [pgD]) (Below.refl _ _)
    · simp only [getElem?_toArray, getElem?_cons_zero, getElem?_cons_succ, Option.some.injEq] at ho
      subst ho
      have e38 : vs 38 = .pointer (some ⟨b, o + j9 * 17, none⟩) := (he ⟨38, .data⟩ (by simp) rfl : pgD P n c (some ⟨b, o, none⟩) (i9 : Int) (j9 : Int) b o i9 j9 x y ob 38 (vs 38) W)
      rw [e38] at hK ⊢
      have e23 : vs 23 = .bool true := (he ⟨23, .guard⟩ (by simp) rfl : pgD P n c (some ⟨b, o, none⟩) (i9 : Int) (j9 : Int) b o i9 j9 x y ob 23 (vs 23) W)
      rw [e23] at hK ⊢
      rw [if_pos (by rfl)]
      simp only [put_someT, setIfInBounds_toArray, set_cons_zero, set_cons_succ] at hK
      have HK := Lib.hid hK
      clear hK he hi hBW
      obtain ⟨d0, d1, d2, d3, d4, d5, d6, d7, d8, d9, d10, d11, d12, d13, d14⟩ := YW.out
      go_simp
      exact HK.out _ _ rfl (Below.refl _ _)
    · simp only [getElem?_toArray, getElem?_cons_zero, getElem?_cons_succ, Option.some.injEq] at ho
      subst ho
      have e31 : vs 31 = .agg #[.string x.name, .int .i64 x.epoch, .string x.ver, .string x.rel, .int .u8 x.arch, .string x.vendor, .slice x.provA x.prov.length x.provC, .slice x.reqA x.req.length x.reqC, .slice x.conA x.con.length x.conC, .slice x.obsA x.obs.length x.obsC, .slice x.rcmA x.rcm.length x.rcmC, .slice x.supA x.sup.length x.supC, .slice x.sugA x.sug.length x.sugC, .slice x.enhA x.enh.length x.enhC, .slice x.filesA x.files.length x.filesC] := (he ⟨31, .data⟩ (by simp) rfl : pgD P n c (some ⟨b, o, none⟩) (i9 : Int) (j9 : Int) b o i9 j9 x y ob 31 (vs 31) W)
      rw [e31] at hK ⊢
      have e39 : vs 39 = .agg #[.string y.name, .int .i64 y.epoch, .string y.ver, .string y.rel, .int .u8 y.arch, .string y.vendor, .slice y.provA y.prov.length y.provC, .slice y.reqA y.req.length y.reqC, .slice y.conA y.con.length y.conC, .slice y.obsA y.obs.length y.obsC, .slice y.rcmA y.rcm.length y.rcmC, .slice y.supA y.sup.length y.supC, .slice y.sugA y.sug.length y.sugC, .slice y.enhA y.enh.length y.enhC, .slice y.filesA y.files.length y.filesC] := (he ⟨39, .data⟩ (by simp) rfl : pgD P n c (some ⟨b, o, none⟩) (i9 : Int) (j9 : Int) b o i9 j9 x y ob 39 (vs 39) W)
      rw [e39] at hK ⊢
      have e23 : vs 23 = .bool true := (he ⟨23, .guard⟩ (by simp) rfl : pgD P n c (some ⟨b, o, none⟩) (i9 : Int) (j9 : Int) b o i9 j9 x y ob 23 (vs 23) W)
      rw [e23] at hK ⊢
      rw [if_pos (by rfl)]
      simp only [put_someT, setIfInBounds_toArray, set_cons_zero, set_cons_succ] at hK
      have HK := Lib.hid hK
      clear hK he hi hBW
      have OBW := OBX.out W BW.out
      rw [EO.out] at OBW
      unfold Pk.val at OBW
      go_simp
      go_at_call 178
      refine OBW.mono ?_
      rintro en w9 ⟨rfl, h⟩
      go_simp
      exact HK.out _ _ rfl h
    · simp only [getElem?_toArray, getElem?_cons_zero, getElem?_cons_succ, Option.some.injEq] at ho
      subst ho
      have e23 : vs 23 = .bool true := (he ⟨23, .data⟩ (by simp) rfl : pgD P n c (some ⟨b, o, none⟩) (i9 : Int) (j9 : Int) b o i9 j9 x y ob 23 (vs 23) W)
      rw [e23] at hK ⊢
      have e40 : vs 40 = .bool ob := (he ⟨40, .data⟩ (by simp) rfl : pgD P n c (some ⟨b, o, none⟩) (i9 : Int) (j9 : Int) b o i9 j9 x y ob 40 (vs 40) W)
      rw [e40] at hK ⊢
      rw [if_pos (by rfl)]
      simp only [put_someT, setIfInBounds_toArray, set_cons_zero, set_cons_succ] at hK
      have HK := Lib.hid hK
      clear hK he hi hBW
      go_simp
      exact HK.out _ _ (by first | rfl | simp [pgD]) (Below.refl _ _)
    · simp only [getElem?_toArray, getElem?_cons_zero, getElem?_cons_succ, Option.some.injEq] at ho
      subst ho
      have e41 : vs 41 = .bool ob := (he ⟨41, .data⟩ (by simp) rfl : pgD P n c (some ⟨b, o, none⟩) (i9 : Int) (j9 : Int) b o i9 j9 x y ob 41 (vs 41) W)
      rw [e41] at hK ⊢
      rw [if_pos (by rfl)]
      simp only [put_someT, setIfInBounds_toArray, set_cons_zero, set_cons_succ] at hK
      have HK := Lib.hid hK
      clear hK he hi hBW
      go_simp
      exact HK.out _ _ (by first | rfl | simp [pgD]) (Below.refl _ _)
  · intro vs W hall hBW
    have e42 : vs 42 = .bool ob := (hall 42 (by decide) : pgD P n c (some ⟨b, o, none⟩) (i9 : Int) (j9 : Int) b o i9 j9 x y ob 42 (vs 42) W)
    simp only [fillV, put_someT, setIfInBounds_toArray, set_cons_zero, set_cons_succ]
    rw [e42]
    have BW := Lib.hid hBW
    clear hall hBW
    go_wp2_with fail
    go_ret
    exact ⟨rfl, BW.out⟩
end Go.Proofs.YteobmfpbgnmffaaGreatDoor
