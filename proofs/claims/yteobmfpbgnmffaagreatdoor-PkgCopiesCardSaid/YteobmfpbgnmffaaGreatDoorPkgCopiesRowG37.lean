/- ShSame -/
import Derived.Test.YteobmfpbgnmffaaGreatDoorPkgCopiesRowG36
import Derived.Test.YteobmfpbgnmffaaGreatDoorPkgCopiesRowG15
import Derived.Deep.Cut
set_option linter.unusedSimpArgs false
set_option linter.unusedVariables false
/- Walks: are two rich dependencies, and two lists of them, the same (shape.Same, slices.EqualFunc; chandleryref10.Riches). -/



namespace Go.Proofs.YteobmfpbgnmffaaGreatDoor
open Go.RowKit Go.Shelf
set_option linter.unusedVariables false

/-- shape.Same tells of these whether they are the same, wherever it is called from w on -/
def SameOn (w : World) (l m : List RV) : Prop := ∀ x ∈ l, ∀ y ∈ m, ∀ W, Below w.heap.size w W → Calls Tryz.prog 76 #[x.val, y.val] W fun e w' => e = .returned (.bool (sameT x.tree y.tree)) ∧ Below W.heap.size W w'
theorem same_enter : ∀ args w, (callFunc 76 args).run Tryz.prog w = .ok (.enter 76 args) w := enters_of Tryz.func76 (by kernel_rfl) rfl
set_option maxRecDepth 100000 in
set_option maxHeartbeats 16000000 in
theorem eqrich_any (A B : Option Addr) (c d : Nat) (D E : List RV) (w : World) (hD : D.length ≤ 1000000) (hE : E.length ≤ 1000000) (hu : RRow w.heap.size w A c D) (hv : RRow w.heap.size w B d E) (hp : SameOn w D E) :
    Calls Tryz.prog 75 #[.slice A D.length c, .slice B E.length d, .func (.func 76) #[] #[]] w fun e w' => e = .returned (.bool (sameL (treeL D) (treeL E))) ∧ Below w.heap.size w w' := by
  by_cases hl : D.length = E.length
  · obtain ⟨n, hn⟩ : ∃ n, n = D.length := ⟨_, rfl⟩
    have HN := Lib.hid hn
    have HE := Lib.hid (hn.trans hl)
    rw [← hl, ← hn]
    have hN : n ≤ 1000000 := by omega
    have HC := Lib.hid hu
    have HD := Lib.hid hv
    have HP := Lib.hid hp
    clear hl hu hv hD hE hn hp
    go_enter Tryz.func75, Tryz.ntmps75
    go_wp2_with fail
    go_loopw [17] (fun i wr => ∃ k : Nat, k ≤ n ∧ i = .int .i64 (k : Int) ∧ RowKit.Hid (sameL ((treeL D).take k) ((treeL E).take k) = true) ∧ Below w.heap.size w wr) (fun i _ => n - (intOf i).toNat)
    case atStart => exact ⟨0, by omega, rfl, Lib.hid rfl, Below.refl _ _⟩
    case round =>
      obtain ⟨k, hk, rfl, hS, hB⟩ := hrel
      rename World => wr
      have HB := Lib.hid hB
      by_cases hlt : k < n
      · have l1 : k < D.length := by have := HN.out; omega
        have l2 : k < E.length := by have := HE.out; omega
        obtain ⟨b1, o1, rfl, hb1, c0, c1, c2, c3, c4, c5, c6⟩ := (HC.out.below hB).at_ l1
        obtain ⟨b2, o2, rfl, hb2, d0, d1, d2, d3, d4, d5, d6⟩ := (HD.out.below hB).at_ l2
        have HT := Lib.hid (sameL_take (l := treeL D) (r := treeL E) (k := k) (by rw [treeL_len, treeL_len, ← HN.out]; exact HE.out) (by rw [treeL_len]; exact l1))
        rw [hS.out, Bool.true_and, treeL_get D k l1, treeL_get E k l2] at HT
        have CP := Lib.hid (HP.out _ (List.getElem_mem l1) _ (List.getElem_mem l2))
        unfold RV.val at CP
        generalize D[k] = x at *
        generalize E[k] = y at *
        clear l1 l2 hB hS
        have i0 : (0 : Int) ≤ (k : Int) := by omega
        have i1 : (k : Int) < (n : Int) := by omega
        obtain ⟨r, hr⟩ : ∃ r, r = sameT x.tree y.tree := ⟨_, rfl⟩
        rw [← hr] at CP HT
        clear hr
        have eg := same_enter
        go_upto_region 6 with fail
        have b1' : Below wr.heap.size wr (wr.alloc (.cells #[.int .u8 x.kind, .string (bs x.dep.name), .int .u8 x.dep.op, .int .i64 x.dep.evr.epoch, .string (bs x.dep.evr.ver), .string (bs x.dep.evr.rel), .slice x.addr x.args.length x.cap] 39)) := (Below.refl _ _).alloc (Nat.le_refl _) _
        have bl2 : b2 < wr.heap.size := Nat.lt_of_lt_of_le hb2 HB.out.size
        have XB := Lib.hid (Box7.new wr (.int .u8 x.kind) (.string (bs x.dep.name)) (.int .u8 x.dep.op) (.int .i64 x.dep.evr.epoch) (.string (bs x.dep.evr.ver)) (.string (bs x.dep.evr.rel)) (.slice x.addr x.args.length x.cap) 39)
        replace d0 := (b1'.cell (p := ⟨b2, o2 + k * 7, none⟩) bl2).trans d0
        replace d1 := (b1'.cell (p := ⟨b2, o2 + k * 7 + 1, none⟩) bl2).trans d1
        replace d2 := (b1'.cell (p := ⟨b2, o2 + k * 7 + 2, none⟩) bl2).trans d2
        replace d3 := (b1'.cell (p := ⟨b2, o2 + k * 7 + 3, none⟩) bl2).trans d3
        replace d4 := (b1'.cell (p := ⟨b2, o2 + k * 7 + 4, none⟩) bl2).trans d4
        replace d5 := (b1'.cell (p := ⟨b2, o2 + k * 7 + 5, none⟩) bl2).trans d5
        replace d6 := (b1'.cell (p := ⟨b2, o2 + k * 7 + 6, none⟩) bl2).trans d6
        have BV := Lib.hid (HB.out.trans (b1'.mono HB.out.size))
        clear c0 c1 c2 c3 c4 c5 c6 b1'
        generalize wr.alloc (.cells #[.int .u8 x.kind, .string (bs x.dep.name), .int .u8 x.dep.op, .int .i64 x.dep.evr.epoch, .string (bs x.dep.evr.ver), .string (bs x.dep.evr.rel), .slice x.addr x.args.length x.cap] 39) = V at *
        generalize wr.heap.size = kx at *
        clear bl2
        go_upto_region 7 with fail
        have b2' : Below V.heap.size V (V.alloc (.cells #[.int .u8 y.kind, .string (bs y.dep.name), .int .u8 y.dep.op, .int .i64 y.dep.evr.epoch, .string (bs y.dep.evr.ver), .string (bs y.dep.evr.rel), .slice y.addr y.args.length y.cap] 39)) := (Below.refl _ _).alloc (Nat.le_refl _) _
        have XB2 := Lib.hid (XB.out.past (b2'.mono (XB.out.2.2)))
        have YB := Lib.hid (Box7.new V (.int .u8 y.kind) (.string (bs y.dep.name)) (.int .u8 y.dep.op) (.int .i64 y.dep.evr.epoch) (.string (bs y.dep.evr.ver)) (.string (bs y.dep.evr.rel)) (.slice y.addr y.args.length y.cap) 39)
        have BW := Lib.hid (BV.out.trans (b2'.mono BV.out.size))
        clear d0 d1 d2 d3 d4 d5 d6 b2' XB
        generalize V.alloc (.cells #[.int .u8 y.kind, .string (bs y.dep.name), .int .u8 y.dep.op, .int .i64 y.dep.evr.epoch, .string (bs y.dep.evr.ver), .string (bs y.dep.evr.rel), .slice y.addr y.args.length y.cap] 39) = V2 at *
        generalize V.heap.size = ky at *
        obtain ⟨⟨x0, x1, x2, x3, x4, x5, x6⟩, _, xl⟩ := id XB2.out
        obtain ⟨⟨y0, y1, y2, y3, y4, y5, y6⟩, _, yl⟩ := id YB.out
        go_wp2_with fail
        go_at_fn 76
        refine (CP.out _ BW.out).mono ?_
        rintro e w2 ⟨rfl, h⟩
        have B2 := Lib.hid (BW.out.trans (h.mono BW.out.size))
        clear h x0 x1 x2 x3 x4 x5 x6 y0 y1 y2 y3 y4 y5 y6 xl yl
        cases r with
        | true =>
          have HS := Lib.hid HT.out
          go_wp2_with fail
          go_roundw
          case rel => exact ⟨k + 1, by omega, by go_num, HS, B2.out⟩
          case measure => simp [intOf]; omega
        | false =>
          have HS := Lib.hid (sameL_no HT.out)
          go_wp2_with fail
          go_ret
          exact ⟨ret_bool (by rw [HS.out]), B2.out⟩
      · obtain rfl : k = n := by omega
        have hlt2 : ¬ (k : Int) < (k : Int) := by omega
        have h3 := hS.out
        rw [List.take_of_length_le (by rw [treeL_len]; have := HN.out; omega), List.take_of_length_le (by rw [treeL_len]; have := HE.out; omega)] at h3
        have H3 := Lib.hid h3
        clear hS h3
        go_wp2_with fail
        go_ret
        exact ⟨ret_bool (by rw [H3.out]), HB.out⟩
  · have hne : ((D.length : Int) != (E.length : Int)) = true := by simp only [bne_iff_ne]; omega
    have hx : RowKit.Hid (sameL (treeL D) (treeL E) = false) := Lib.hid (sameL_len (by rw [treeL_len, treeL_len]; exact hl))
    rw [hx.out]
    clear hl hu hv hx hp
    generalize D.length = n at *
    generalize E.length = m at *
    go_enter Tryz.func75, Tryz.ntmps75
    go_wp2_with fail
    go_ret
    exact ⟨rfl, Below.refl _ _⟩
set_option maxRecDepth 100000 in
set_option maxHeartbeats 16000000 in
theorem shsame_any : ∀ (f : Nat) (a b : RV) (w : World), a.ht ≤ f → RTree w.heap.size w a → RTree w.heap.size w b → a.tree.parts ≤ 1000000 → b.tree.parts ≤ 1000000 → Calls Tryz.prog 76 #[a.val, b.val] w fun e w' => e = .returned (.bool (sameT a.tree b.tree)) ∧ Below w.heap.size w w'
  | 0, a, b, w, hf, _, _, _, _ => absurd hf (by rw [ht_args]; omega)
  | f + 1, a, b, w, hf, ha, hb, hpa, hpb => by
    have qa : 1 + partsL (treeL a.args) ≤ 1000000 := by rw [tree_parts a, RT.parts] at hpa; exact hpa
    have qb : 1 + partsL (treeL b.args) ≤ 1000000 := by rw [tree_parts b, RT.parts] at hpb; exact hpb
    have la : a.args.length ≤ 1000000 := by have h2 := partsL_len (treeL a.args); rw [treeL_len] at h2; omega
    have lb : b.args.length ≤ 1000000 := by have h2 := partsL_len (treeL b.args); rw [treeL_len] at h2; omega
    have ON : ∀ W, Below w.heap.size w W → SameOn W a.args b.args := fun W hW x hx y hy U hU => by
      obtain ⟨i, hi, rfl⟩ := List.getElem_of_mem hx
      obtain ⟨j, hj, rfl⟩ := List.getElem_of_mem hy
      have hWU := hW.trans (hU.mono hW.size)
      have ra := ((ha.rrow.below hWU).2 _ (List.getElem_mem hi)).more hWU.size
      have rb := ((hb.rrow.below hWU).2 _ (List.getElem_mem hj)).more hWU.size
      have p1 := partsL_get (l := treeL a.args) (i := i) (by rw [treeL_len]; exact hi)
      have p2 := partsL_get (l := treeL b.args) (i := j) (by rw [treeL_len]; exact hj)
      rw [treeL_get a.args i hi] at p1
      rw [treeL_get b.args j hj] at p2
      exact shsame_any f _ _ U (Nat.le_trans (ht_mem (List.getElem_mem hi)) (by rw [ht_args] at hf; omega)) ra rb (by omega) (by omega)
    have EQ := Lib.hid (fun W (h : Below w.heap.size w W) => eqrich_any a.addr b.addr a.cap b.cap a.args b.args W la lb ((ha.rrow.below h).more h.size) ((hb.rrow.below h).more h.size) (ON W h))
    have HR : Hid (sameT a.tree b.tree = ((decide (a.kind = b.kind) && decide ((bs a.dep.name).toList = (bs b.dep.name).toList) && decide (a.dep.op = b.dep.op) && decide (a.dep.evr.epoch = b.dep.evr.epoch) && decide ((bs a.dep.evr.ver).toList = (bs b.dep.evr.ver).toList) && decide ((bs a.dep.evr.rel).toList = (bs b.dep.evr.rel).toList)) && sameL (treeL a.args) (treeL b.args))) := Lib.hid (by rw [tree_parts a, tree_parts b, sameT, dec_bs a.dep.name, dec_bs a.dep.evr.ver, dec_bs a.dep.evr.rel])
    clear ha hb hf hpa hpb qa qb la lb ON
    unfold RV.val
    obtain ⟨r, hr⟩ : ∃ r, r = sameL (treeL a.args) (treeL b.args) := ⟨_, rfl⟩
    rw [← hr] at EQ HR
    clear hr
    generalize a.args.length = m1 at *
    generalize b.args.length = m2 at *
    generalize a.addr = aA at *
    generalize b.addr = bA at *
    generalize a.cap = ac at *
    generalize b.cap = bc at *
    generalize a.kind = k1 at *
    generalize b.kind = k2 at *
    generalize bs a.dep.name = n1 at *
    generalize bs b.dep.name = n2 at *
    generalize a.dep.op = o1 at *
    generalize b.dep.op = o2 at *
    generalize a.dep.evr.epoch = e1 at *
    generalize b.dep.evr.epoch = e2 at *
    generalize bs a.dep.evr.ver = v1 at *
    generalize bs b.dep.evr.ver = v2 at *
    generalize bs a.dep.evr.rel = r1 at *
    generalize bs b.dep.evr.rel = r2 at *
    have z1 : (w.alloc (.cells #[.int .u8 k1, .string n1, .int .u8 o1, .int .i64 e1, .string v1, .string r1, .slice aA m1 ac] 39)).heap.size = w.heap.size + 1 := by simp
    have BW := Lib.hid (((Below.refl w.heap.size w).alloc (Nat.le_refl _) (.cells #[.int .u8 k1, .string n1, .int .u8 o1, .int .i64 e1, .string v1, .string r1, .slice aA m1 ac] 39)).alloc (by rw [z1]; omega) (.cells #[.int .u8 k2, .string n2, .int .u8 o2, .int .i64 e2, .string v2, .string r2, .slice bA m2 bc] 39))
    clear z1
    have tl : ∀ {x y : ByteArray}, x = y ∨ ¬ x.toList = y.toList := fun {x y} => by by_cases h : x.toList = y.toList; exact .inl (toList_inj h); exact .inr h
    by_cases q : k1 = k2
    subst q
    rcases (tl : n1 = n2 ∨ _) with rfl | q
    by_cases q : o1 = o2
    subst q
    by_cases q : e1 = e2
    subst q
    rcases (tl : v1 = v2 ∨ _) with rfl | q
    rcases (tl : r1 = r2 ∨ _) with rfl | q
    · clear tl
      go_enter Tryz.func76, Tryz.ntmps76
      go_wp2_with fail
      go_at_call 75
      refine (EQ.out _ BW.out).mono ?_
      rintro en w5 ⟨rfl, hb5⟩
      have HB5 := Lib.hid (BW.out.trans (hb5.mono BW.out.size))
      clear hb5
      go_wp2_with fail
      go_ret
      exact ⟨ret_bool (by rw [HR.out]; simp), HB5.out⟩
    all_goals
      clear tl
      go_enter Tryz.func76, Tryz.ntmps76
      go_wp2_with fail
      go_ret
      exact ⟨ret_bool (by rw [HR.out]; simp [q]), BW.out⟩
set_option maxRecDepth 100000 in
set_option maxHeartbeats 16000000 in
theorem r10riches_same (A B : Option Addr) (c d : Nat) (D E : List RV) (w : World) (hD : D.length ≤ 1000000) (hE : E.length ≤ 1000000) (hu : RRow w.heap.size w A c D) (hv : RRow w.heap.size w B d E) :
    Calls Tryz.prog 17 #[.slice A D.length c, .slice B E.length d] w fun e w' => e = .returned (.bool (sameL (treeL D) (treeL E))) ∧ Below w.heap.size w w' := by
  by_cases hl : D.length = E.length
  · obtain ⟨n, hn⟩ : ∃ n, n = D.length := ⟨_, rfl⟩
    have HN := Lib.hid hn
    have HE := Lib.hid (hn.trans hl)
    rw [← hl, ← hn]
    have hN : n ≤ 1000000 := by omega
    have HC := Lib.hid hu
    have HD := Lib.hid hv
    clear hl hu hv hD hE hn
    go_enter Tryz.func17, Tryz.ntmps17
    go_wp2_with fail
    go_loopw [5] (fun i wr => ∃ k : Nat, k ≤ n ∧ i = .int .i64 (k : Int) ∧ RowKit.Hid (sameL ((treeL D).take k) ((treeL E).take k) = true) ∧ Below w.heap.size w wr) (fun i _ => n - (intOf i).toNat)
    case atStart => exact ⟨0, by omega, rfl, Lib.hid rfl, Below.refl _ _⟩
    case round =>
      obtain ⟨k, hk, rfl, hS, hB⟩ := hrel
      rename World => wr
      have HB := Lib.hid hB
      by_cases hlt : k < n
      · have l1 : k < D.length := by have := HN.out; omega
        have l2 : k < E.length := by have := HE.out; omega
        have RA := HC.out.below hB
        have RB := HD.out.below hB
        obtain ⟨b1, p1, rfl, hb1, c0, c1, c2, c3, c4, c5, c6⟩ := RA.at_ l1
        obtain ⟨b2, p2, rfl, hb2, d0, d1, d2, d3, d4, d5, d6⟩ := RB.at_ l2
        have HT := Lib.hid (sameL_take (l := treeL D) (r := treeL E) (k := k) (by rw [treeL_len, treeL_len, ← HN.out]; exact HE.out) (by rw [treeL_len]; exact l1))
        rw [hS.out, Bool.true_and, treeL_get D k l1, treeL_get E k l2] at HT
        have TA := (RA.2 _ (List.getElem_mem l1)).more HB.out.size
        have TB := (RB.2 _ (List.getElem_mem l2)).more HB.out.size
        have hc := r9same_any D[k].ht D[k] E[k] wr.drew (Nat.le_refl _) (TA.keeps (Below.refl _ _).drew) (TB.keeps (Below.refl _ _).drew)
        unfold RV.val at hc
        have HCC := Lib.hid hc
        clear hc TA TB RA RB hS hB
        generalize D[k] = t1 at *
        generalize E[k] = t2 at *
        clear l1 l2
        obtain ⟨r, hr⟩ : ∃ r, r = sameT t1.tree t2.tree := ⟨_, rfl⟩
        rw [← hr] at HCC HT
        clear hr
        have i0 : (0 : Int) ≤ (k : Int) := by omega
        have i1 : (k : Int) < (n : Int) := by omega
        go_wp2_with fail
        have c0' : World.cell? { wr with drawn := wr.drawn + 1 } ⟨b1, p1 + k * 7, none⟩ = some (.int .u8 t1.kind) := c0
        have c1' : World.cell? { wr with drawn := wr.drawn + 1 } ⟨b1, p1 + k * 7 + 1, none⟩ = some (.string (bs t1.dep.name)) := c1
        have c2' : World.cell? { wr with drawn := wr.drawn + 1 } ⟨b1, p1 + k * 7 + 2, none⟩ = some (.int .u8 t1.dep.op) := c2
        have c3' : World.cell? { wr with drawn := wr.drawn + 1 } ⟨b1, p1 + k * 7 + 3, none⟩ = some (.int .i64 t1.dep.evr.epoch) := c3
        have c4' : World.cell? { wr with drawn := wr.drawn + 1 } ⟨b1, p1 + k * 7 + 4, none⟩ = some (.string (bs t1.dep.evr.ver)) := c4
        have c5' : World.cell? { wr with drawn := wr.drawn + 1 } ⟨b1, p1 + k * 7 + 5, none⟩ = some (.string (bs t1.dep.evr.rel)) := c5
        have c6' : World.cell? { wr with drawn := wr.drawn + 1 } ⟨b1, p1 + k * 7 + 6, none⟩ = some (.slice t1.addr t1.args.length t1.cap) := c6
        have d0' : World.cell? { wr with drawn := wr.drawn + 1 } ⟨b2, p2 + k * 7, none⟩ = some (.int .u8 t2.kind) := d0
        have d1' : World.cell? { wr with drawn := wr.drawn + 1 } ⟨b2, p2 + k * 7 + 1, none⟩ = some (.string (bs t2.dep.name)) := d1
        have d2' : World.cell? { wr with drawn := wr.drawn + 1 } ⟨b2, p2 + k * 7 + 2, none⟩ = some (.int .u8 t2.dep.op) := d2
        have d3' : World.cell? { wr with drawn := wr.drawn + 1 } ⟨b2, p2 + k * 7 + 3, none⟩ = some (.int .i64 t2.dep.evr.epoch) := d3
        have d4' : World.cell? { wr with drawn := wr.drawn + 1 } ⟨b2, p2 + k * 7 + 4, none⟩ = some (.string (bs t2.dep.evr.ver)) := d4
        have d5' : World.cell? { wr with drawn := wr.drawn + 1 } ⟨b2, p2 + k * 7 + 5, none⟩ = some (.string (bs t2.dep.evr.rel)) := d5
        have d6' : World.cell? { wr with drawn := wr.drawn + 1 } ⟨b2, p2 + k * 7 + 6, none⟩ = some (.slice t2.addr t2.args.length t2.cap) := d6
        go_still_tail 8, (by kernel_rfl)
        change wpList _ _ _ _ _ wr.drew
        go_wp2_with fail
        go_at_call 73
        refine HCC.out.mono ?_
        rintro en w5 ⟨rfl, hb5⟩
        have HB5 := Lib.hid (HB.out.drew.trans (hb5.mono (show w.heap.size ≤ wr.drew.heap.size from HB.out.drew.size)))
        clear hb5
        cases r with
        | true =>
          have HS := Lib.hid HT.out
          go_wp2_with fail
          go_roundw
          case rel => exact ⟨k + 1, by omega, by go_num, HS, HB5.out⟩
          case measure => simp [intOf]; omega
        | false =>
          have HS := Lib.hid (sameL_no HT.out)
          go_wp2_with fail
          go_ret
          exact ⟨ret_bool (by rw [HS.out]), HB5.out⟩
      · obtain rfl : k = n := by omega
        have hlt2 : ¬ (k : Int) < (k : Int) := by omega
        have h3 := hS.out
        rw [List.take_of_length_le (by rw [treeL_len]; have := HN.out; omega), List.take_of_length_le (by rw [treeL_len]; have := HE.out; omega)] at h3
        have H3 := Lib.hid h3
        clear hS h3
        go_wp2_with fail
        go_ret
        exact ⟨ret_bool (by rw [H3.out]), HB.out⟩
  · have hne : ((D.length : Int) != (E.length : Int)) = true := by simp only [bne_iff_ne]; omega
    have hx : RowKit.Hid (sameL (treeL D) (treeL E) = false) := Lib.hid (sameL_len (by rw [treeL_len, treeL_len]; exact hl))
    rw [hx.out]
    clear hl hu hv hx
    generalize D.length = n at *
    generalize E.length = m at *
    go_enter Tryz.func17, Tryz.ntmps17
    go_wp2_with fail
    go_ret
    exact ⟨rfl, Below.refl _ _⟩
end Go.Proofs.YteobmfpbgnmffaaGreatDoor
