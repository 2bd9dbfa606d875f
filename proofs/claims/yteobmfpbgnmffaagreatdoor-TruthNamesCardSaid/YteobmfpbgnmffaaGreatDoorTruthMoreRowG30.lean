/- IxGet -/
import Derived.Test.YteobmfpbgnmffaaGreatDoorTruthMoreRowG25
import Derived.Test.YteobmfpbgnmffaaGreatDoorTruthMoreRowG26
import Derived.Test.YteobmfpbgnmffaaGreatDoorTruthMoreRowG22
import Derived.Test.YteobmfpbgnmffaaGreatDoorTruthMoreRowG29
set_option linter.unusedSimpArgs false
set_option linter.unusedVariables false
open List (getElem?_toArray getElem?_cons_zero getElem?_cons_succ setIfInBounds_toArray set_cons_zero set_cons_succ take_succ_cons take_zero)
/- Walks: who provides a dependency, by an index (match.Index: sift, Providers). -/





namespace Go.Proofs.YteobmfpbgnmffaaGreatDoor
open Go.RowKit Go.Shelf
set_option linter.unusedVariables false

set_option maxRecDepth 100000 in
set_option maxHeartbeats 16000000 in
theorem prov1x_any (q : Pk) (d : Dp) (z : Int) (b : Nat) (W : World) (hL : q.Laid W.heap.size W) (hm : mayP q = true) (hb : DpAt W b d) (hd : d.evr.ok) (h1 : 0 ≤ d.op ∧ d.op ≤ 255) :
    Calls Tryz.prog 209 #[q.val, .int .i64 z, .pointer (some ⟨b, 0, none⟩)] W fun e w' => e = .returned (.bool (provB q d)) ∧ Below W.heap.size W w' := by
  have b1 := (Below.refl W.heap.size W).alloc (Nat.le_refl _) (.cells #[.string q.name, .int .i64 q.epoch, .string q.ver, .string q.rel, .int .u8 q.arch, .string q.vendor, .slice q.provA q.prov.length q.provC, .slice q.reqA q.req.length q.reqC, .slice q.conA q.con.length q.conC, .slice q.obsA q.obs.length q.obsC, .slice q.rcmA q.rcm.length q.rcmC, .slice q.supA q.sup.length q.supC, .slice q.sugA q.sug.length q.sugC, .slice q.enhA q.enh.length q.enhC, .slice q.filesA q.files.length q.filesC] 28)
  have PR := Lib.hid (pkprov_any q d _ (hL.calls b1) (small_of_may hm) (evr_ok_of_may hm) hd h1)
  obtain ⟨_, c0, c1, c2, c3, c4⟩ := hb.calls b1
  unfold Pk.val Dp.val at PR
  unfold Pk.val
  have B1 := Lib.hid b1
  clear hL hm hb hd h1 b1
  generalize provB q d = r at *
  go_enter Tryz.func209, Tryz.ntmps209
  go_wp2_with fail
  go_at_call 49
  refine PR.out.mono ?_
  rintro e w2 ⟨rfl, h⟩
  have hB := B1.out.trans (h.mono (by simp))
  clear h
  go_wp2_with fail
  go_ret
  exact ⟨rfl, hB⟩
theorem infoIntX : (Tryz.prog.info? 3).map (fun i => (i.zero, i.size, i.bytes)) = some (some (.int .i64 0), 1, 8) := by kernel_rfl
theorem filter_succ {zs : List Int} {j : Nat} (h : j < zs.length) (p : Int → Bool) : (zs.take (j + 1)).filter p = (zs.take j).filter p ++ (if p zs[j] then [zs[j]] else []) := by
  rw [List.take_succ_eq_append_getElem h, List.filter_append]
  congr 1
  rw [List.filter_cons]
  cases p zs[j] <;> rfl
theorem filter_take_le (zs : List Int) (p : Int → Bool) (j : Nat) : ((zs.take j).filter p).length ≤ zs.length :=
  Nat.le_trans (List.length_filter_le _ _) (by rw [List.length_take]; exact Nat.min_le_right _ _)
set_option maxRecDepth 100000 in
set_option maxHeartbeats 16000000 in
theorem sift_any {X : Nat} {L : List Pk} {F : ByteArray → List Int} {w : World} (hX : IndexAt X L F w) (zs : List Int) (A : Option Addr) (c : Nat) (hz : Rd encI 1 w.heap.size A c zs w) (hl : ∀ z ∈ zs, ∃ k : Nat, z = (k : Int) ∧ k < L.length) (hn : zs.length ≤ 1000000) (g : FuncId) (eg : ∀ args w, (callFunc g args).run Tryz.prog w = .ok (.enter g args) w) (cp : Array Value) (p : Pk → Bool)
    (hp : ∀ (k : Nat) (hk : k < L.length) W, Below w.heap.size w W → Calls Tryz.prog g (#[L[k].val, .int .i64 (k : Int)] ++ cp) W fun e w' => e = .returned (.bool (p L[k])) ∧ Below W.heap.size W w') :
    Calls Tryz.prog 208 #[.pointer (some ⟨X, 0, none⟩), .slice A zs.length c, .func (.func g) #[] cp] w fun e w' => ∃ v, e = .returned v ∧ Own encI 1 w.heap.size 3 v (zs.filter fun z => (L[z.toNat]?).any p) w' ∧ Below w.heap.size w w' := by
  obtain ⟨A2, c2, h0, hr⟩ := hX.row
  have HX := hX.lt
  have HR := Lib.hid (fun W (hb : Below w.heap.size w W) => show PRow W.heap.size W A2 c2 L from ⟨(hr.below hb).more hb.size, fun q hq => (hX.laid q hq).calls hb⟩)
  have H0 := Lib.hid h0
  have HZ := Lib.hid (fun W (hb : Below w.heap.size w W) => (hz.below hb).more hb.size)
  have HL := Lib.hid hl
  have HP := Lib.hid hp
  have FS := Lib.hid (fun j (h : j < zs.length) => filter_succ h (fun z => (L[z.toNat]?).any p))
  have FL := Lib.hid (fun j => filter_take_le zs (fun z => (L[z.toNat]?).any p) j)
  have FA := Lib.hid (show zs.take zs.length = zs from List.take_length)
  obtain ⟨n, hn9⟩ : ∃ n, n = zs.length := ⟨_, rfl⟩
  rw [← hn9] at hn FL FA ⊢
  have HN := Lib.hid hn9
  obtain ⟨i0, hi, hz0, hz1, hz2⟩ := info_parts infoIntX
  clear hX hz hl hp hn9 hr
  go_enter Tryz.func208, Tryz.ntmps208
  go_wp2_with fail
  go_loopw [7, 12] (fun v iv wr => ∃ j : Nat, j ≤ n ∧ iv = .int .i64 (j : Int) ∧ Own encI 1 w.heap.size 3 v ((zs.take j).filter fun z => (L[z.toNat]?).any p) wr ∧ Below w.heap.size w wr) (fun _ iv _ => n - (intOf iv).toNat)
  case atStart => exact ⟨0, Nat.zero_le _, rfl, Own.nil_ _ _ _, Below.refl _ _⟩
  case round =>
    obtain ⟨j, hj, rfl, how, hB⟩ := hrel
    rename World => wr
    have OW := Lib.hid how
    have HB := Lib.hid hB
    have h0 := (hB.cell (p := ⟨X, 0, none⟩) HX).trans H0.out
    clear how hB
    by_cases hlt : j < n
    · have hjl : j < zs.length := by have := HN.out; omega
      obtain ⟨b, o, hA, hb, e0⟩ := (HZ.out wr HB.out).int_at hjl
      obtain ⟨k, hk, hkl⟩ := HL.out _ (List.getElem_mem hjl)
      have FJ := Lib.hid (FS.out j hjl)
      rw [hk] at FJ e0
      obtain ⟨b2, o2, hA2, hb2, d0, d1, d2, d3, d4, d5, d6, d7, d8, d9, d10, d11, d12, d13, d14⟩ := (HR.out wr HB.out).at_ hkl
      have CP := Lib.hid (HP.out k hkl wr HB.out)
      rw [Int.toNat_natCast, List.getElem?_eq_getElem hkl, Option.any_some] at FJ
      have F0 := Lib.hid (FL.out j)
      generalize L[k] = q at *
      generalize p q = r at *
      have i0' : (0 : Int) ≤ (j : Int) := by omega
      have i1 : (j : Int) < (n : Int) := by omega
      have k0 : (0 : Int) ≤ (k : Int) := by omega
      have k1 : (k : Int) < (L.length : Int) := by omega
      rw [hA]
      subst hA2
      unfold Pk.val at CP
      clear hA hjl hk hkl
      go_wp2_with fail
      go_at_fn g
      refine CP.out.mono ?_
      rintro e w9 ⟨rfl, h⟩
      have OW9 := Lib.hid (Own.below OW.out h (Nat.le_refl _))
      have HB9 := Lib.hid (HB.out.trans (h.mono HB.out.size))
      clear h OW CP d0 d1 d2 d3 d4 d5 d6 d7 d8 d9 d10 d11 d12 d13 d14 e0 h0 HL HP
      cases r
      · go_wp2_with fail
        go_roundw
        case rel => exact ⟨j + 1, by omega, by go_num, by rw [FJ.out]; simpa using OW9.out, HB9.out⟩
        case measure => simp [intOf]; omega
      · go_wp2_with (at_builtin; refine wpList_append_own _ rfl _ _ 42 rfl w.heap.size 3 i0 (.int .i64 0) 1 8 Tryz.underlying42 hi hz0 hz1 hz2 rfl (by decide) _ _ _ rfl (World.ownsRow.alloc OW9.out _) ⟨w9.heap.size, 0, none⟩ 1 1 [.int .i64 (k : Int)] rfl rfl ?c1 ?c2 ?c3 ?c4 ?c5 ?c6)
        case c1 => exact cell_one_new _ _ _
        case c2 => simp [Value.oneCell']
        case c3 => have := F0.out; unfold maxLen; omega
        case c4 => have := F0.out; omega
        case c5 => simp only [World.size_alloc]; have := HB9.out.size; omega
        case c6 =>
          intro v' w6 ho6 hg6 _
          have OV6 := Lib.hid (Own.snoc (x := (k : Int)) ho6)
          have B6 := Lib.hid ((HB9.out.alloc HB9.out.size _).grown hg6 (by simp only [World.size_alloc]; have := HB9.out.size; omega) (fun j hj => (World.ownsRow.lt OW9.out j hj).1))
          clear ho6 hg6
          go_wp2_with fail
          go_roundw
          case rel => exact ⟨j + 1, by omega, by go_num, by rw [FJ.out]; exact OV6.out, B6.out⟩
          case measure => simp [intOf]; omega
    · obtain rfl : j = n := by omega
      have i1 : ¬ (j : Int) < (j : Int) := by omega
      have OWE := Lib.hid (FA.out ▸ OW.out)
      clear OW
      go_wp2_with fail
      go_ret
      exact ⟨_, rfl, OWE.out, HB.out⟩
theorem flat_encI (zs : List Int) : zs.flatMap encI = zs.map (Value.int .i64) := by
  induction zs with
  | nil => rfl
  | cons a l ih => rw [List.flatMap_cons, List.map_cons, ih]; rfl
/-- a row of one's own that reads in a slice value -/
theorem ints_rd {w : World} {base : Nat} {u : Value} {zs : List Int} (h : w.ownsInts base 3 .i64 u zs) : ∃ A c, u = .slice A zs.length c ∧ Rd encI 1 w.heap.size A c zs w := by
  have h2 : Own encI 1 base 3 u zs w := by
    have := h.1
    unfold Own
    rw [flat_encI]
    exact this
  exact h2.rd encI_len
def pvP (X mb db : Nat) (key : ByteArray) (zs : List Int) (i : Nat) (v : Value) (W : World) : Prop := match i with
  | 0 => v = .pointer (some ⟨X, 0, none⟩)
  | 1 => v = .pointer (some ⟨X, 0, none⟩)
  | 2 => v = .pointer (some ⟨X, 0, none⟩)
  | 3 => v = .pointer (some ⟨X, 1, none⟩)
  | 4 => v = .map (some mb)
  | 5 => v = .pointer (some ⟨db, 0, none⟩)
  | 6 => v = .string key
  | 7 => ∃ A c, v = .slice A zs.length c ∧ Rd encI 1 W.heap.size A c zs W
  | 8 => v = .func (.func 209) #[] #[.pointer (some ⟨db, 0, none⟩)]
  | _ => False
theorem pvP_mono (X mb db : Nat) (key : ByteArray) (zs : List Int) : ∀ i v w w', pvP X mb db key zs i v w → Below w.heap.size w w' → pvP X mb db key zs i v w' := by
  intro i v w w' h hb
  match i, h with
  | 0, h => exact h
  | 1, h => exact h
  | 2, h => exact h
  | 3, h => exact h
  | 4, h => exact h
  | 5, h => exact h
  | 6, h => exact h
  | 7, h => exact h.elim fun A h => h.elim fun c h => ⟨A, c, h.1, (h.2.below hb).more hb.size⟩
  | 8, h => exact h
  | (k + 9), h => exact h.elim
set_option maxRecDepth 100000 in
set_option maxHeartbeats 16000000 in
theorem providers_any {X : Nat} {L : List Pk} {F : ByteArray → List Int} {w : World} (hX : IndexAt X L F w) (d : Dp) (hw : d.wf) (hd : d.evr.ok) (h1 : 0 ≤ d.op ∧ d.op ≤ 255) (hm : ∀ q ∈ L, mayP q = true) (hL : L.length ≤ 1000000) (hF : ∀ s, ∀ z ∈ F s, ∃ k : Nat, z = (k : Int) ∧ k < L.length) (hn : ∀ s, (F s).length ≤ 1000000) :
    Calls Tryz.prog 182 #[.pointer (some ⟨X, 0, none⟩), d.val] w fun e w' => ∃ v, e = .returned v ∧ Own encI 1 w.heap.size 3 v ((F (bs d.name)).filter fun z => (L[z.toNat]?).any fun q => provB q d) w' ∧ Below w.heap.size w w' := by
  obtain ⟨mb, base, N, hmb, hNm, hc1, hg⟩ := hX.grp
  have IX := Lib.hid (fun W (hb : Below w.heap.size w W) => hX.then hb)
  have GR0 := Lib.hid (fun W (hb : Below w.heap.size w W) => hg.then hb)
  have HNX := Lib.hid hNm
  have HKL := Lib.hid (show (bs d.name).size ≤ maxLen from dwf_name hw)
  have HLT := Lib.hid hX.lt
  have C1 := Lib.hid hc1
  have b1 := (Below.refl w.heap.size w).alloc (Nat.le_refl _) (.cells #[.string (bs d.name), .int .u8 d.op, .int .i64 d.evr.epoch, .string (bs d.evr.ver), .string (bs d.evr.rel)] 37)
  have DA := Lib.hid (DpAt.new w d)
  have HM := Lib.hid hm
  have HD := Lib.hid hd
  have HO := Lib.hid h1
  have HLN := Lib.hid hL
  have HZ := Lib.hid (show ∀ z ∈ F (bs d.name), ∃ k : Nat, z = (k : Int) ∧ k < L.length from hF _)
  have HF9 := Lib.hid (show (F (bs d.name)).length ≤ 1000000 from hn _)
  clear hmb hNm hc1 hg hX hw hm hd h1 hL hF hn
  unfold Dp.val
  go_enter Tryz.func182, Tryz.ntmps182
  go_wp2_with fail
  obtain ⟨V, hV⟩ : ∃ V, V = w.alloc (.cells #[.string (bs d.name), .int .u8 d.op, .int .i64 d.evr.epoch, .string (bs d.evr.ver), .string (bs d.evr.rel)] 37) := ⟨_, rfl⟩
  rw [← hV] at b1 DA ⊢
  have B1 := Lib.hid b1
  clear hV b1
  have GR := Lib.hid (fun W (hb : Below V.heap.size V W) => GR0.out W (B1.out.trans (hb.mono B1.out.size)))
  refine wp_region_tail (PP := pvP X mb w.heap.size (bs d.name) (F (bs d.name))) 9 rfl (by kernel_rfl) (by kernel_rfl) (by decide) (by decide) (pvP_mono X mb w.heap.size (bs d.name) (F (bs d.name))) (fun _ => undef) (by simp [fillV, put_someT, setIfInBounds_toArray, set_cons_zero, set_cons_succ]) ?_ ?_
  · intro i o vs W hi ho he hBW K hK
    simp only [take_succ_cons, take_zero, fillV, put_someT, setIfInBounds_toArray, set_cons_zero, set_cons_succ] at hK ⊢
    have BW := Lib.hid hBW
    have C1W := Lib.hid (((B1.out.trans (hBW.mono B1.out.size)).cell (p := ⟨X, 1, none⟩) HLT.out).trans C1.out)
    have CNW := Lib.hid (DA.out.calls hBW).2.1
    obtain rfl | rfl | rfl | rfl | rfl | rfl | rfl | rfl | rfl := (show i = 0 ∨ i = 1 ∨ i = 2 ∨ i = 3 ∨ i = 4 ∨ i = 5 ∨ i = 6 ∨ i = 7 ∨ i = 8 by exact (by have : i < 9 := hi; omega))
    · simp only [getElem?_toArray, getElem?_cons_zero, getElem?_cons_succ, Option.some.injEq] at ho
      subst ho
      rw [if_pos (by rfl)]
      simp only [put_someT, setIfInBounds_toArray, set_cons_zero, set_cons_succ] at hK
      have HK := Lib.hid hK
      clear hK he hi hBW
      go_simp
      exact HK.out _ _ (by first | rfl | simp [pvP]) (Below.refl _ _)
    · simp only [getElem?_toArray, getElem?_cons_zero, getElem?_cons_succ, Option.some.injEq] at ho
      subst ho
      rw [if_pos (by rfl)]
      simp only [put_someT, setIfInBounds_toArray, set_cons_zero, set_cons_succ] at hK
      have HK := Lib.hid hK
      clear hK he hi hBW
      go_simp
      exact HK.out _ _ (by first | rfl | simp [pvP]) (Below.refl _ _)
    · simp only [getElem?_toArray, getElem?_cons_zero, getElem?_cons_succ, Option.some.injEq] at ho
      subst ho
      have e1 : vs 1 = .pointer (some ⟨X, 0, none⟩) := (he ⟨1, .data⟩ (by simp) rfl : pvP X mb w.heap.size (bs d.name) (F (bs d.name)) 1 (vs 1) W)
      rw [e1] at hK ⊢
      rw [if_pos (by rfl)]
      simp only [put_someT, setIfInBounds_toArray, set_cons_zero, set_cons_succ] at hK
      have HK := Lib.hid hK
      clear hK he hi hBW
      go_simp
      exact HK.out _ _ (by first | rfl | simp [pvP]) (Below.refl _ _)
    · simp only [getElem?_toArray, getElem?_cons_zero, getElem?_cons_succ, Option.some.injEq] at ho
      subst ho
      have e2 : vs 2 = .pointer (some ⟨X, 0, none⟩) := (he ⟨2, .data⟩ (by simp) rfl : pvP X mb w.heap.size (bs d.name) (F (bs d.name)) 2 (vs 2) W)
      rw [e2] at hK ⊢
      rw [if_pos (by rfl)]
      simp only [put_someT, setIfInBounds_toArray, set_cons_zero, set_cons_succ] at hK
      have HK := Lib.hid hK
      clear hK he hi hBW
      go_simp
      exact HK.out _ _ (by first | rfl | simp [pvP]) (Below.refl _ _)
    · simp only [getElem?_toArray, getElem?_cons_zero, getElem?_cons_succ, Option.some.injEq] at ho
      subst ho
      have e3 : vs 3 = .pointer (some ⟨X, 1, none⟩) := (he ⟨3, .data⟩ (by simp) rfl : pvP X mb w.heap.size (bs d.name) (F (bs d.name)) 3 (vs 3) W)
      rw [e3] at hK ⊢
      rw [if_pos (by rfl)]
      simp only [put_someT, setIfInBounds_toArray, set_cons_zero, set_cons_succ] at hK
      have HK := Lib.hid hK
      clear hK he hi hBW
      have cx := C1W.out
      go_simp
      exact HK.out _ _ rfl (Below.refl _ _)
    · simp only [getElem?_toArray, getElem?_cons_zero, getElem?_cons_succ, Option.some.injEq] at ho
      subst ho
      rw [if_pos (by rfl)]
      simp only [put_someT, setIfInBounds_toArray, set_cons_zero, set_cons_succ] at hK
      have HK := Lib.hid hK
      clear hK he hi hBW
      go_simp
      exact HK.out _ _ (by first | rfl | simp [pvP]) (Below.refl _ _)
    · simp only [getElem?_toArray, getElem?_cons_zero, getElem?_cons_succ, Option.some.injEq] at ho
      subst ho
      have e5 : vs 5 = .pointer (some ⟨w.heap.size, 0, none⟩) := (he ⟨5, .data⟩ (by simp) rfl : pvP X mb w.heap.size (bs d.name) (F (bs d.name)) 5 (vs 5) W)
      rw [e5] at hK ⊢
      rw [if_pos (by rfl)]
      simp only [put_someT, setIfInBounds_toArray, set_cons_zero, set_cons_succ] at hK
      have HK := Lib.hid hK
      clear hK he hi hBW
      have cn := CNW.out
      go_simp
      exact HK.out _ _ rfl (Below.refl _ _)
    · simp only [getElem?_toArray, getElem?_cons_zero, getElem?_cons_succ, Option.some.injEq] at ho
      subst ho
      have e4 : vs 4 = .map (some mb) := (he ⟨4, .data⟩ (by simp) rfl : pvP X mb w.heap.size (bs d.name) (F (bs d.name)) 4 (vs 4) W)
      rw [e4] at hK ⊢
      have e6 : vs 6 = .string (bs d.name) := (he ⟨6, .data⟩ (by simp) rfl : pvP X mb w.heap.size (bs d.name) (F (bs d.name)) 6 (vs 6) W)
      rw [e6] at hK ⊢
      rw [if_pos (by rfl)]
      simp only [put_someT, setIfInBounds_toArray, set_cons_zero, set_cons_succ] at hK
      have HK := Lib.hid hK
      clear hK he hi hBW
      exact op_lookup_grp W _ _ rfl (mb := mb) (No := fun _ => False) rfl rfl HKL.out HNX.out (GR.out _ BW.out) (fun _ _ _ _ _ _ _ h => h) fun u hu => by
        obtain ⟨DD, l1, ls, l2, _⟩ := hu
        obtain ⟨A, c, e, hr⟩ := ints_rd l2
        exact HK.out _ _ ⟨A, c, e, hr⟩ (Below.refl _ _)
    · simp only [getElem?_toArray, getElem?_cons_zero, getElem?_cons_succ, Option.some.injEq] at ho
      subst ho
      rw [if_pos (by rfl)]
      simp only [put_someT, setIfInBounds_toArray, set_cons_zero, set_cons_succ] at hK
      have HK := Lib.hid hK
      clear hK he hi hBW
      go_simp
      exact HK.out _ _ rfl (Below.refl _ _)
  · intro vs W hall hBW
    obtain ⟨A7, c7, e7, hr7⟩ : pvP X mb w.heap.size (bs d.name) (F (bs d.name)) 7 (vs 7) W := hall 7 (by decide)
    have e0 : vs 0 = .pointer (some ⟨X, 0, none⟩) := hall 0 (by decide)
    have e8 : vs 8 = .func (.func 209) #[] #[.pointer (some ⟨w.heap.size, 0, none⟩)] := hall 8 (by decide)
    simp only [take_succ_cons, take_zero, List.drop_succ_cons, List.drop_zero, fillV, put_someT, put_noneC, setIfInBounds_toArray, set_cons_zero, set_cons_succ]
    rw [e0, e7, e8]
    generalize vs 1 = y1
    generalize vs 2 = y2
    generalize vs 3 = y3
    generalize vs 4 = y4
    generalize vs 5 = y5
    generalize vs 6 = y6
    have BW := Lib.hid (B1.out.trans (hBW.mono B1.out.size))
    have DW := Lib.hid (DA.out.calls hBW)
    have SF := Lib.hid (sift_any (IX.out W BW.out) (F (bs d.name)) A7 c7 hr7 HZ.out HF9.out 209 (fun _ _ => rfl) #[.pointer (some ⟨w.heap.size, 0, none⟩)] (fun q => provB q d) (fun k hk W' hb => prov1x_any L[k] d (k : Int) w.heap.size W' ((IX.out W' (BW.out.trans (hb.mono BW.out.size))).laid _ (List.getElem_mem hk)) (HM.out _ (List.getElem_mem hk)) (DW.out.calls hb) HD.out HO.out))
    clear hall hBW e0 e7 e8 hr7
    generalize (F (bs d.name)).length = nz at *
    go_wp2_with fail
    go_at_call 208
    refine SF.out.mono ?_
    rintro e w2 ⟨v, rfl, ho, h⟩
    have HB := Lib.hid (BW.out.trans (h.mono BW.out.size))
    have HOW := Lib.hid (ho.more BW.out.size)
    clear h ho SF
    go_wp2_with fail
    go_ret
    exact ⟨v, rfl, HOW.out, HB.out⟩
end Go.Proofs.YteobmfpbgnmffaaGreatDoor
