/- TrIs6 -/
import Derived.Test.YteobmfpbgnmffaaGreatDoorTruthMoreRowG37
set_option linter.unusedSimpArgs false
set_option linter.unusedVariables false
open List (getElem?_toArray getElem?_cons_zero getElem?_cons_succ setIfInBounds_toArray set_cons_zero set_cons_succ take_succ_cons take_zero)
/- Walks: an Atom, and whether a state satisfies it (truth.asked: atom, is). -/

namespace Go.Proofs.YteobmfpbgnmffaaGreatDoor
open Go.RowKit Go.Shelf
set_option linter.unusedVariables false

def atmP (ab T X rx : Nat) (d : Dp) (zs : List Int) (r : Bool) (i : Nat) (v : Value) (W : World) : Prop := match i with
  | 0 => v = .pointer (some ⟨ab, 0, none⟩)
  | 1 => v = .pointer (some ⟨T, 0, none⟩)
  | 2 => v = .pointer (some ⟨T, 0, none⟩)
  | 3 => v = .pointer (some ⟨T, 0, none⟩)
  | 4 => v = .pointer (some ⟨X, 0, none⟩)
  | 5 => v = .pointer (some ⟨rx, 1, none⟩)
  | 6 => v = .agg #[.string (bs d.name), .int .u8 d.op, .int .i64 d.evr.epoch, .string (bs d.evr.ver), .string (bs d.evr.rel)]
  | 7 => ∃ A c, v = .slice A zs.length c ∧ Rd encI 1 W.heap.size A c zs W
  | 8 => v = .func (.func 183) #[] #[.pointer (some ⟨ab, 0, none⟩)]
  | 9 => v = .bool r
  | _ => False
theorem atmP_mono (ab T X rx : Nat) (d : Dp) (zs : List Int) (r : Bool) : ∀ i v w w', atmP ab T X rx d zs r i v w → Below w.heap.size w w' → atmP ab T X rx d zs r i v w' := by
  intro i v w w' h hb
  match i, h with
  | 0, h => exact h
  | 1, h => exact h
  | 2, h => exact h
  | 3, h => exact h
  | 4, h => exact h
  | 5, h => exact h
  | 6, h => exact h
  | 7, h => exact h.elim fun A h => h.elim fun c h => ⟨A, c, h.1, (h.2.below hb).more hb.size⟩
  | 8, h => exact h
  | 9, h => exact h
  | (k + 10), h => exact h.elim

section
variable {T X N : Nat} {L : List Pk}
theorem rbx_d {b : Nat} {R : RV} {d : Dp} {V W : World} (h : b < V.heap.size ∧ V.cell? ⟨b, 0, none⟩ = some (.int .u8 R.kind) ∧ V.cell? ⟨b, 1, none⟩ = some (.string (bs d.name)) ∧ V.cell? ⟨b, 2, none⟩ = some (.int .u8 d.op) ∧ V.cell? ⟨b, 3, none⟩ = some (.int .i64 d.evr.epoch) ∧ V.cell? ⟨b, 4, none⟩ = some (.string (bs d.evr.ver)) ∧ V.cell? ⟨b, 5, none⟩ = some (.string (bs d.evr.rel)) ∧ V.cell? ⟨b, 6, none⟩ = some (.slice R.addr R.args.length R.cap)) (hb : Below V.heap.size V W) :
    b < W.heap.size ∧ W.cell? ⟨b, 0, none⟩ = some (.int .u8 R.kind) ∧ W.cell? ⟨b, 1, none⟩ = some (.string (bs d.name)) ∧ W.cell? ⟨b, 2, none⟩ = some (.int .u8 d.op) ∧ W.cell? ⟨b, 3, none⟩ = some (.int .i64 d.evr.epoch) ∧ W.cell? ⟨b, 4, none⟩ = some (.string (bs d.evr.ver)) ∧ W.cell? ⟨b, 5, none⟩ = some (.string (bs d.evr.rel)) ∧ W.cell? ⟨b, 6, none⟩ = some (.slice R.addr R.args.length R.cap) := by
  obtain ⟨hl, c0, c1, c2, c3, c4, c5, c6⟩ := h
  exact ⟨Nat.lt_of_lt_of_le hl hb.size, (hb.cell (p := ⟨b, 0, none⟩) hl).trans c0, (hb.cell (p := ⟨b, 1, none⟩) hl).trans c1, (hb.cell (p := ⟨b, 2, none⟩) hl).trans c2, (hb.cell (p := ⟨b, 3, none⟩) hl).trans c3, (hb.cell (p := ⟨b, 4, none⟩) hl).trans c4, (hb.cell (p := ⟨b, 5, none⟩) hl).trans c5, (hb.cell (p := ⟨b, 6, none⟩) hl).trans c6⟩
set_option maxRecDepth 100000 in
set_option maxHeartbeats 16000000 in
theorem atom_any (R : RV) (hdm : dmayB R.dep = true) (rb : Nat) (f : Nat → Bool) (U : World) (hA : AskT T X N rb L f U) (hT : RTree U.heap.size U R) :
    Calls Tryz.prog 136 #[askW T rb N, R.val] U fun e w' => e = .returned (.bool (Tr.anyN N fun n => f n && pvL L n R.dep)) ∧ Below U.heap.size U w' := by
  have b1 := (Below.refl U.heap.size U).alloc (Nat.le_refl _) (.cells #[.pointer (some ⟨T, 0, none⟩), .slice (some ⟨rb, 0, none⟩) N N] 145)
  have b2 := b1.alloc (by simp) (.cells #[.int .u8 R.kind, .string (bs R.dep.name), .int .u8 R.dep.op, .int .i64 R.dep.evr.epoch, .string (bs R.dep.evr.ver), .string (bs R.dep.evr.rel), .slice R.addr R.args.length R.cap] 39)
  have bb := (Below.refl _ (U.alloc (.cells #[.pointer (some ⟨T, 0, none⟩), .slice (some ⟨rb, 0, none⟩) N N] 145))).alloc (Nat.le_refl _) (.cells #[.int .u8 R.kind, .string (bs R.dep.name), .int .u8 R.dep.op, .int .i64 R.dep.evr.epoch, .string (bs R.dep.evr.ver), .string (bs R.dep.evr.rel), .slice R.addr R.args.length R.cap] 39)
  have a1 := (ABox.new T rb N U 145).then bb
  have RB := RBx.new R (U.alloc (.cells #[.pointer (some ⟨T, 0, none⟩), .slice (some ⟨rb, 0, none⟩) N N] 145))
  rw [World.size_alloc] at RB
  obtain ⟨d, hd⟩ : ∃ d, d = R.dep := ⟨_, rfl⟩
  obtain ⟨zs, hzs⟩ : ∃ zs, zs = provL L d := ⟨_, rfl⟩
  obtain ⟨r, hr⟩ : ∃ r, r = zs.any (fun z => f z.toNat) := ⟨_, rfl⟩
  have HRR := Lib.hid (show (Tr.anyN N fun n => f n && pvL L n R.dep) = r from by rw [hr, hzs, anyN_prov, hA.tr.len, hd])
  have HZ := Lib.hid (show ∀ z ∈ zs, ∃ k : Nat, z = (k : Int) ∧ k < N from fun z hz => by rw [hzs, ← prov_sift] at hz; obtain ⟨k, e, hk⟩ := idxF_lt (List.mem_filter.1 hz).1; exact ⟨k, e, by rw [← hA.tr.len]; exact hk⟩)
  have HZN := Lib.hid (show zs.length ≤ 1000000 from by rw [hzs, ← prov_sift]; have h1 := List.length_filter_le (fun z : Int => pvL L z.toNat d) (idxF L (bs d.name)); have h2 := idxF_len L (bs d.name); have h3 := hA.tr.len; have h4 := hA.tr.hN; omega)
  have PV := Lib.hid (fun W (ht : TruthAt T X N L W) => (show Calls Tryz.prog 182 #[.pointer (some ⟨X, 0, none⟩), d.val] W fun e w' => ∃ v, e = .returned v ∧ Own encI 1 W.heap.size 3 v zs w' ∧ Below W.heap.size W w' from by
    have q := providers_any ht.ix d (by rw [hd]; exact hT.wf) (by rw [hd]; exact small_ok (dep_small hdm)) (by rw [hd]; exact Dp.wf_ok hT.wf) ht.may (by have := ht.len; have := ht.hN; omega) (fun s z hz => idxF_lt hz) (fun s => by have := idxF_len L s; have := ht.len; have := ht.hN; omega)
    rw [show ((idxF L (bs d.name)).filter fun z => (L[z.toNat]?).any fun q => provB q d) = zs from by rw [hzs]; exact prov_sift L d] at q
    exact q))
  have CF := Lib.hid (fun W (hb : Below ((U.alloc (.cells #[.pointer (some ⟨T, 0, none⟩), .slice (some ⟨rb, 0, none⟩) N N] 145)).alloc (.cells #[.int .u8 R.kind, .string (bs R.dep.name), .int .u8 R.dep.op, .int .i64 R.dep.evr.epoch, .string (bs R.dep.evr.ver), .string (bs R.dep.evr.rel), .slice R.addr R.args.length R.cap] 39)).heap.size ((U.alloc (.cells #[.pointer (some ⟨T, 0, none⟩), .slice (some ⟨rb, 0, none⟩) N N] 145)).alloc (.cells #[.int .u8 R.kind, .string (bs R.dep.name), .int .u8 R.dep.op, .int .i64 R.dep.evr.epoch, .string (bs R.dep.evr.ver), .string (bs R.dep.evr.rel), .slice R.addr R.args.length R.cap] 39)) W) A c (h : Rd encI 1 W.heap.size A c zs W) => hr ▸ hasintf_any 183 (fun _ _ => rfl) #[.pointer (some ⟨U.heap.size, 0, none⟩)] (fun z => f z.toNat) zs A c W h HZN.out (fun z hz W' hB => by
    obtain ⟨k, rfl, hk⟩ := HZ.out z hz
    have q := atom1_any (T := T) (X := X) (L := L) U.heap.size rb f W' k hk (hA.then (b2.trans ((hb.trans (hB.mono hb.size)).mono b2.size))) (a1.then (hb.trans (hB.mono hb.size)))
    exact q.mono fun e w' h => ⟨h.1.trans (by show _ = Ending.returned (.bool (f ((k : Int)).toNat)); rw [Int.toNat_natCast]), h.2⟩))
  rw [← hd] at RB
  have TR := Lib.hid (fun W (hb : Below ((U.alloc (.cells #[.pointer (some ⟨T, 0, none⟩), .slice (some ⟨rb, 0, none⟩) N N] 145)).alloc (.cells #[.int .u8 R.kind, .string (bs R.dep.name), .int .u8 R.dep.op, .int .i64 R.dep.evr.epoch, .string (bs R.dep.evr.ver), .string (bs R.dep.evr.rel), .slice R.addr R.args.length R.cap] 39)).heap.size ((U.alloc (.cells #[.pointer (some ⟨T, 0, none⟩), .slice (some ⟨rb, 0, none⟩) N N] 145)).alloc (.cells #[.int .u8 R.kind, .string (bs R.dep.name), .int .u8 R.dep.op, .int .i64 R.dep.evr.epoch, .string (bs R.dep.evr.ver), .string (bs R.dep.evr.rel), .slice R.addr R.args.length R.cap] 39)) W) => hA.tr.then (b2.trans (hb.mono b2.size)))
  have HDD := Lib.hid hd
  rw [HRR.out]
  unfold Dp.val at PV
  unfold askW RV.val
  rw [← hd]
  rw [← hd] at CF TR b2 bb a1
  clear hA hT hdm b1 bb hzs hr HRR hd
  go_enter Tryz.func136, Tryz.ntmps136
  go_wp2_with fail
  obtain ⟨V, hV⟩ : ∃ V, V = (U.alloc (.cells #[.pointer (some ⟨T, 0, none⟩), .slice (some ⟨rb, 0, none⟩) N N] 145)).alloc (.cells #[.int .u8 R.kind, .string (bs d.name), .int .u8 d.op, .int .i64 d.evr.epoch, .string (bs d.evr.ver), .string (bs d.evr.rel), .slice R.addr R.args.length R.cap] 39) := ⟨_, rfl⟩
  rw [← hV] at a1 RB b2 CF TR ⊢
  have AX := Lib.hid a1
  have BZ := Lib.hid b2
  have RBV := Lib.hid RB
  clear hV a1 b2 RB
  refine wp_region_tail (PP := atmP U.heap.size T X (U.heap.size + 1) d zs r) 10 rfl (by kernel_rfl) (by kernel_rfl) (by decide) (by decide) (atmP_mono U.heap.size T X (U.heap.size + 1) d zs r) (fun _ => undef) (by simp [fillV, put_someT, setIfInBounds_toArray, set_cons_zero, set_cons_succ]) ?_ ?_
  · intro i o vs W hi ho he hBW K hK
    simp only [take_succ_cons, take_zero, fillV, put_someT, setIfInBounds_toArray, set_cons_zero, set_cons_succ] at hK ⊢
    have BW := Lib.hid hBW
    have AXW := Lib.hid (AX.out.then hBW)
    have TRW := Lib.hid (TR.out W hBW)
    have RBW := Lib.hid (rbx_d RBV.out hBW)
    obtain rfl | rfl | rfl | rfl | rfl | rfl | rfl | rfl | rfl | rfl := (show i = 0 ∨ i = 1 ∨ i = 2 ∨ i = 3 ∨ i = 4 ∨ i = 5 ∨ i = 6 ∨ i = 7 ∨ i = 8 ∨ i = 9 by exact (by have : i < 10 := hi; omega))
    · simp only [getElem?_toArray, getElem?_cons_zero, getElem?_cons_succ, Option.some.injEq] at ho
      subst ho
      rw [if_pos (by rfl)]
      simp only [put_someT, setIfInBounds_toArray, set_cons_zero, set_cons_succ] at hK
      have HK := Lib.hid hK
      clear hK he hi hBW
      go_simp
      exact HK.out _ _ (by first | rfl | simp [atmP]) (Below.refl _ _)
    · simp only [getElem?_toArray, getElem?_cons_zero, getElem?_cons_succ, Option.some.injEq] at ho
      subst ho
      have e0 : vs 0 = .pointer (some ⟨U.heap.size, 0, none⟩) := (he ⟨0, .data⟩ (by simp) rfl : atmP U.heap.size T X (U.heap.size + 1) d zs r 0 (vs 0) W)
      rw [e0] at hK ⊢
      rw [if_pos (by rfl)]
      simp only [put_someT, setIfInBounds_toArray, set_cons_zero, set_cons_succ] at hK
      have HK := Lib.hid hK
      clear hK he hi hBW
      have a0 := AXW.out.2.1
      go_simp
      exact HK.out _ _ rfl (Below.refl _ _)
    · simp only [getElem?_toArray, getElem?_cons_zero, getElem?_cons_succ, Option.some.injEq] at ho
      subst ho
      have e1 : vs 1 = .pointer (some ⟨T, 0, none⟩) := (he ⟨1, .data⟩ (by simp) rfl : atmP U.heap.size T X (U.heap.size + 1) d zs r 1 (vs 1) W)
      rw [e1] at hK ⊢
      rw [if_pos (by rfl)]
      simp only [put_someT, setIfInBounds_toArray, set_cons_zero, set_cons_succ] at hK
      have HK := Lib.hid hK
      clear hK he hi hBW
      go_simp
      exact HK.out _ _ (by first | rfl | simp [atmP]) (Below.refl _ _)
    · simp only [getElem?_toArray, getElem?_cons_zero, getElem?_cons_succ, Option.some.injEq] at ho
      subst ho
      have e2 : vs 2 = .pointer (some ⟨T, 0, none⟩) := (he ⟨2, .data⟩ (by simp) rfl : atmP U.heap.size T X (U.heap.size + 1) d zs r 2 (vs 2) W)
      rw [e2] at hK ⊢
      rw [if_pos (by rfl)]
      simp only [put_someT, setIfInBounds_toArray, set_cons_zero, set_cons_succ] at hK
      have HK := Lib.hid hK
      clear hK he hi hBW
      go_simp
      exact HK.out _ _ (by first | rfl | simp [atmP]) (Below.refl _ _)
    · simp only [getElem?_toArray, getElem?_cons_zero, getElem?_cons_succ, Option.some.injEq] at ho
      subst ho
      have e3 : vs 3 = .pointer (some ⟨T, 0, none⟩) := (he ⟨3, .data⟩ (by simp) rfl : atmP U.heap.size T X (U.heap.size + 1) d zs r 3 (vs 3) W)
      rw [e3] at hK ⊢
      rw [if_pos (by rfl)]
      simp only [put_someT, setIfInBounds_toArray, set_cons_zero, set_cons_succ] at hK
      have HK := Lib.hid hK
      clear hK he hi hBW
      have t0 := TRW.out.c0
      go_simp
      exact HK.out _ _ rfl (Below.refl _ _)
    · simp only [getElem?_toArray, getElem?_cons_zero, getElem?_cons_succ, Option.some.injEq] at ho
      subst ho
      rw [if_pos (by rfl)]
      simp only [put_someT, setIfInBounds_toArray, set_cons_zero, set_cons_succ] at hK
      have HK := Lib.hid hK
      clear hK he hi hBW
      go_simp
      exact HK.out _ _ (by first | rfl | simp [atmP]) (Below.refl _ _)
    · simp only [getElem?_toArray, getElem?_cons_zero, getElem?_cons_succ, Option.some.injEq] at ho
      subst ho
      have e5 : vs 5 = .pointer (some ⟨U.heap.size + 1, 1, none⟩) := (he ⟨5, .data⟩ (by simp) rfl : atmP U.heap.size T X (U.heap.size + 1) d zs r 5 (vs 5) W)
      rw [e5] at hK ⊢
      rw [if_pos (by rfl)]
      simp only [put_someT, setIfInBounds_toArray, set_cons_zero, set_cons_succ] at hK
      have HK := Lib.hid hK
      clear hK he hi hBW
      obtain ⟨_, _, c1, c2, c3, c4, c5, _⟩ := RBW.out
      rw [← HDD.out] at c1 c2 c3 c4 c5
      go_simp
      exact HK.out _ _ rfl (Below.refl _ _)
    · simp only [getElem?_toArray, getElem?_cons_zero, getElem?_cons_succ, Option.some.injEq] at ho
      subst ho
      have e4 : vs 4 = .pointer (some ⟨X, 0, none⟩) := (he ⟨4, .data⟩ (by simp) rfl : atmP U.heap.size T X (U.heap.size + 1) d zs r 4 (vs 4) W)
      rw [e4] at hK ⊢
      have e6 : vs 6 = .agg #[.string (bs d.name), .int .u8 d.op, .int .i64 d.evr.epoch, .string (bs d.evr.ver), .string (bs d.evr.rel)] := (he ⟨6, .data⟩ (by simp) rfl : atmP U.heap.size T X (U.heap.size + 1) d zs r 6 (vs 6) W)
      rw [e6] at hK ⊢
      rw [if_pos (by rfl)]
      simp only [put_someT, setIfInBounds_toArray, set_cons_zero, set_cons_succ] at hK
      have HK := Lib.hid hK
      clear hK he hi hBW
      have PVW := PV.out W TRW.out
      go_simp
      go_at_call 182
      refine PVW.mono ?_
      rintro en w9 ⟨v9, rfl, ho, h⟩
      obtain ⟨A9, c9, e9, hr9⟩ := ho.rd encI_len
      go_simp
      exact HK.out _ _ ⟨A9, c9, rfl, hr9⟩ h
    · simp only [getElem?_toArray, getElem?_cons_zero, getElem?_cons_succ, Option.some.injEq] at ho
      subst ho
      rw [if_pos (by rfl)]
      simp only [put_someT, setIfInBounds_toArray, set_cons_zero, set_cons_succ] at hK
      have HK := Lib.hid hK
      clear hK he hi hBW
      go_simp
      exact HK.out _ _ (by first | rfl | simp [atmP]) (Below.refl _ _)
    · simp only [getElem?_toArray, getElem?_cons_zero, getElem?_cons_succ, Option.some.injEq] at ho
      subst ho
      obtain ⟨A7, c7, e7, hr7⟩ := (he ⟨7, .data⟩ (by simp) rfl : atmP U.heap.size T X (U.heap.size + 1) d zs r 7 (vs 7) W)
      rw [e7] at hK ⊢
      have R7 := Lib.hid hr7
      have e8 : vs 8 = .func (.func 183) #[] #[.pointer (some ⟨U.heap.size, 0, none⟩)] := (he ⟨8, .data⟩ (by simp) rfl : atmP U.heap.size T X (U.heap.size + 1) d zs r 8 (vs 8) W)
      rw [e8] at hK ⊢
      rw [if_pos (by rfl)]
      simp only [put_someT, setIfInBounds_toArray, set_cons_zero, set_cons_succ] at hK
      have HK := Lib.hid hK
      clear hK he hi hBW
      have CFW := CF.out W BW.out A7 c7 R7.out
      clear e7
      generalize zs.length = nz at *
      go_simp
      go_at_call 181
      refine CFW.mono ?_
      rintro en w9 ⟨rfl, h⟩
      go_simp
      exact HK.out _ _ rfl h
  · intro vs W hall hBW
    have eo : vs 9 = .bool r := hall 9 (by decide)
    simp only [take_succ_cons, take_zero, List.drop_succ_cons, List.drop_zero, fillV, put_someT, put_noneC, setIfInBounds_toArray, set_cons_zero, set_cons_succ]
    rw [eo]
    generalize vs 0 = y0
    generalize vs 1 = y1
    generalize vs 2 = y2
    generalize vs 3 = y3
    generalize vs 4 = y4
    generalize vs 5 = y5
    generalize vs 6 = y6
    generalize vs 7 = y7
    generalize vs 8 = y8
    have BX := Lib.hid (BZ.out.trans (hBW.mono BZ.out.size))
    clear hall hBW eo
    go_wp2_with fail
    go_ret
    exact ⟨rfl, BX.out⟩
end
end Go.Proofs.YteobmfpbgnmffaaGreatDoor
