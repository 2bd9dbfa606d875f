/- TrMore -/
import Derived.Test.YteobmfpbgnmffaaGreatDoorTruthMoreRowG45
import Derived.Test.YteobmfpbgnmffaaGreatDoorTruthMoreRowG46
import Derived.Test.YteobmfpbgnmffaaGreatDoorTruthMoreRowG10
import Derived.Deep.CutRange
set_option linter.unusedSimpArgs false
set_option linter.unusedVariables false
open List (getElem?_toArray getElem?_cons_zero getElem?_cons_succ setIfInBounds_toArray set_cons_zero set_cons_succ take_succ_cons take_zero)
/- Walk: TruthMore. -/





namespace Go.Proofs.YteobmfpbgnmffaaGreatDoor
open Go.RowKit Go.Shelf
set_option linter.unusedVariables false

theorem own_madeT {α : Type} {enc : α → List Value} {size : Nat} (he : ∀ x, (enc x).length = size) (l : List α) (W : World) (t : TypeId) (hl : l.length ≤ 1000) : Own enc size W.heap.size t (.slice (some ⟨W.heap.size, 0, none⟩) l.length l.length) l (W.alloc (.cells (l.flatMap enc).toArray t)) :=
  ⟨flatMap_len enc size he l, .inr ⟨W.heap.size, l.length, (l.flatMap enc).toArray, rfl, Nat.le_refl _, World.alloc_heap_new W _, Nat.le_refl _, by unfold maxLen; omega, by simpa using flatMap_len enc size he l, by show (l.flatMap enc).take (l.length * size) = _; rw [← flatMap_len enc size he l, List.take_length]⟩⟩
def mo9 (T m sc aln kc : Nat) (SA KA : Option Addr) (R : RV) (WS WB : List Int) (i : Nat) (v : Value) (W : World) : Prop := match i with
  | 0 => v = .pointer (some ⟨T, 0, none⟩)
  | 1 => v = .slice SA m sc
  | 2 => v = .agg #[.int .u8 R.kind, .string (bs R.dep.name), .int .u8 R.dep.op, .int .i64 R.dep.evr.epoch, .string (bs R.dep.evr.ver), .string (bs R.dep.evr.rel), .slice R.addr R.args.length R.cap]
  | 3 => ∃ A c, v = .slice A (WS).length c ∧ Rd encI 1 W.heap.size A c WS W
  | 4 => v = .pointer (some ⟨T, 0, none⟩)
  | 5 => v = .slice KA aln kc
  | 6 => v = .agg #[.int .u8 R.kind, .string (bs R.dep.name), .int .u8 R.dep.op, .int .i64 R.dep.evr.epoch, .string (bs R.dep.evr.ver), .string (bs R.dep.evr.rel), .slice R.addr R.args.length R.cap]
  | 7 => ∃ A c, v = .slice A (WB).length c ∧ Rd encI 1 W.heap.size A c WB W
  | 8 => ∃ A c, v = .slice A (WS).length c ∧ Rd encI 1 W.heap.size A c WS W
  | 9 => ∃ A c, v = .slice A (WB).length c ∧ Rd encI 1 W.heap.size A c WB W
  | _ => False
theorem mo9_mono (T m sc aln kc : Nat) (SA KA : Option Addr) (R : RV) (WS WB : List Int) : ∀ i v w w', mo9 T m sc aln kc SA KA R WS WB i v w → Below w.heap.size w w' → mo9 T m sc aln kc SA KA R WS WB i v w' := by
  intro i v w w' h hb
  match i, h with
  | 0, h => exact h
  | 1, h => exact h
  | 2, h => exact h
  | 3, h => exact h.elim fun A h => h.elim fun c h => ⟨A, c, h.1, (h.2.below hb).more hb.size⟩
  | 4, h => exact h
  | 5, h => exact h
  | 6, h => exact h
  | 7, h => exact h.elim fun A h => h.elim fun c h => ⟨A, c, h.1, (h.2.below hb).more hb.size⟩
  | 8, h => exact h.elim fun A h => h.elim fun c h => ⟨A, c, h.1, (h.2.below hb).more hb.size⟩
  | 9, h => exact h.elim fun A h => h.elim fun c h => ⟨A, c, h.1, (h.2.below hb).more hb.size⟩
  | (k + 10), h => exact h.elim
def mo13 (T m sc b oo wn wac bn bac k : Nat) (SA BA : Option Addr) (R : RV) (x : Int) (i : Nat) (v : Value) (W : World) : Prop := match i with
  | 0 => v = .slice SA m sc
  | 1 => v = .slice (some ⟨b, oo, none⟩) wn wac
  | 2 => v = .int .i64 (k : Int)
  | 3 => v = .pointer (some ⟨b, oo + k, none⟩)
  | 4 => v = .int .i64 x
  | 5 => v = .bool true
  | 6 => v = .bool false
  | 7 => v = .bool false
  | 8 => v = .slice BA bn bac
  | 9 => v = .slice (some ⟨b, oo, none⟩) wn wac
  | 10 => v = .int .i64 (k : Int)
  | 11 => v = .pointer (some ⟨b, oo + k, none⟩)
  | 12 => v = .int .i64 x
  | 13 => v = .bool true
  | 14 => v = .bool false
  | 15 => v = .bool false
  | 16 => v = .bool false
  | 17 => v = .pointer (some ⟨T, 0, none⟩)
  | 18 => v = .slice (some ⟨b, oo, none⟩) wn wac
  | 19 => v = .int .i64 (k : Int)
  | 20 => v = .pointer (some ⟨b, oo + k, none⟩)
  | 21 => v = .int .i64 x
  | 22 => v = .agg #[.int .u8 R.kind, .string (bs R.dep.name), .int .u8 R.dep.op, .int .i64 R.dep.evr.epoch, .string (bs R.dep.evr.ver), .string (bs R.dep.evr.rel), .slice R.addr R.args.length R.cap]
  | 23 => v = .bool true
  | 24 => v = .bool false
  | 25 => v = .bool false
  | _ => False
theorem mo13_mono (T m sc b oo wn wac bn bac k : Nat) (SA BA : Option Addr) (R : RV) (x : Int) : ∀ i v w w', mo13 T m sc b oo wn wac bn bac k SA BA R x i v w → Below w.heap.size w w' → mo13 T m sc b oo wn wac bn bac k SA BA R x i v w' := by
  intro i v w w' h hb
  match i, h with
  | 0, h => exact h
  | 1, h => exact h
  | 2, h => exact h
  | 3, h => exact h
  | 4, h => exact h
  | 5, h => exact h
  | 6, h => exact h
  | 7, h => exact h
  | 8, h => exact h
  | 9, h => exact h
  | 10, h => exact h
  | 11, h => exact h
  | 12, h => exact h
  | 13, h => exact h
  | 14, h => exact h
  | 15, h => exact h
  | 16, h => exact h
  | 17, h => exact h
  | 18, h => exact h
  | 19, h => exact h
  | 20, h => exact h
  | 21, h => exact h
  | 22, h => exact h
  | 23, h => exact h
  | 24, h => exact h
  | 25, h => exact h
  | (k + 26), h => exact h.elim
set_option maxRecDepth 100000 in
set_option maxHeartbeats 16000000 in
theorem truthMore_row (w : World) (hI : WhIn w) (RA : Option Addr) (rc : Nat) (repos : List Rp) (hr : RpRow w.heap.size w RA rc repos) (hrq : ∀ r ∈ repos, ∀ p ∈ r.pk, PkQ w p) (IA : Option Addr) (ic : Nat) (ins : List Pk) (hi : PRow w.heap.size w IA ic ins) (hiq : ∀ p ∈ ins, PkQ w p) (SA : Option Addr) (sc : Nat) (S : List Int) (hS : Rd encI 1 w.heap.size SA sc S w ∧ (∀ z ∈ S, (Lit.int .i64 z).wf = true) ∧ S.length ≤ 1000000000000000) (MA : Option Addr) (mc : Nat) (M : List Int) (hM : Rd encI 1 w.heap.size MA mc M w ∧ (∀ z ∈ M, (Lit.int .i64 z).wf = true) ∧ M.length ≤ 1000000000000000) (R : RV) (hR : RTree w.heap.size w R) : Calls Tryz.prog 6 #[.slice RA repos.length rc, .slice IA ins.length ic, .slice SA S.length sc, .slice MA M.length mc, R.val] w fun e w' => e = .returned (.bool true) ∧ Below w.heap.size w w' := by
  obtain ⟨hS, hSw, hSl⟩ := hS
  obtain ⟨hM, hMw, hMl⟩ := hM
  have b1 := (Below.refl w.heap.size w).alloc (Nat.le_refl _) (.cells #[.int .u8 R.kind, .string (bs R.dep.name), .int .u8 R.dep.op, .int .i64 R.dep.evr.epoch, .string (bs R.dep.evr.ver), .string (bs R.dep.evr.rel), .slice R.addr R.args.length R.cap] 39)
  have RB := RBx.new R w
  have WD := Lib.hid (fun W (hb : Below w.heap.size w W) => wide14_any RA rc repos IA ic ins SA S.length sc R W (hr.calls hb) (hi.calls hb) ((hR.keeps hb).more hb.size))
  have AW := Lib.hid (fun W (hb : Below w.heap.size w W) => tawake_any W (hI.below hb))
  have MD := Lib.hid (fun (k : Int) (hn : Narrow repos ins k) W (hb : Below w.heap.size w W) => made14_any (w0 := w) (hI.1.below hb) (hr.calls hb) (hi.calls hb) hn hrq hiq)
  have TM0 := Lib.hid (fun W (hb : Below w.heap.size w W) => show WhIn W ∧ RTree W.heap.size W R ∧ Rd encI 1 W.heap.size SA sc S W ∧ Rd encI 1 W.heap.size MA mc M W from ⟨hI.below hb, (hR.keeps hb).more hb.size, (hS.below hb).more hb.size, (hM.below hb).more hb.size⟩)
  unfold RV.val at *
  obtain ⟨m, hm⟩ : ∃ m, S.length = m := ⟨_, rfl⟩
  obtain ⟨mm, hmm⟩ : ∃ mm, M.length = mm := ⟨_, rfl⟩
  rw [hm] at WD ⊢
  rw [hmm]
  have HM := Lib.hid hm
  have HMM := Lib.hid hmm
  clear hI hr hrq hi hiq hS hSw hSl hM hMw hMl hR hm
  have B1 := Lib.hid b1
  have RBV := Lib.hid RB
  clear b1 RB
  go_enter Tryz.func6, Tryz.ntmps6
  go_wp2_with fail
  obtain ⟨V, hV⟩ : ∃ V, V = w.alloc (.cells #[.int .u8 R.kind, .string (bs R.dep.name), .int .u8 R.dep.op, .int .i64 R.dep.evr.epoch, .string (bs R.dep.evr.ver), .string (bs R.dep.evr.rel), .slice R.addr R.args.length R.cap] 39) := ⟨_, rfl⟩
  rw [← hV] at B1 RBV ⊢
  clear hV
  go_at_call 36
  refine (WD.out V B1.out).mono ?_
  rintro en w1 ⟨r, rfl, hn, h⟩
  have B2 := Lib.hid (B1.out.trans (h.mono B1.out.size))
  have RB2 := Lib.hid (RBV.out.then h)
  have HNR := Lib.hid hn
  have AW1 := AW.out w1 B2.out
  clear h hn WD B1 RBV
  cases r
  rotate_left
  · go_wp2_with fail
    go_at_call 37
    refine AW1.mono ?_
    rintro en w9 ⟨rfl, h⟩
    have B9 := Lib.hid (B2.out.trans (h.mono B2.out.size))
    clear h
    go_wp2_with fail
    go_ret
    exact ⟨rfl, B9.out⟩
  have NW := Lib.hid (HNR.out rfl)
  clear HNR
  by_cases hg : (200 : Int) < (mm : Int)
  · go_wp2_with fail
    go_at_call 37
    refine AW1.mono ?_
    rintro en w9 ⟨rfl, h⟩
    have B9 := Lib.hid (B2.out.trans (h.mono B2.out.size))
    clear h
    go_wp2_with fail
    go_ret
    exact ⟨rfl, B9.out⟩
  have hm200 : mm ≤ 200 := by omega
  have hs200 : m ≤ 200 := by have := NW.out.1.nk; have := HM.out; omega
  go_wp2_with fail
  go_at_call 37
  refine AW1.mono ?_
  rintro en w2 ⟨rfl, h⟩
  have B3 := Lib.hid (B2.out.trans (h.mono B2.out.size))
  have RB3 := Lib.hid (RB2.out.then h)
  clear h B2 RB2 AW AW1
  go_wp2_with fail
  go_at_call 38
  refine (MD.out _ NW.out.1 w2 B3.out).mono ?_
  rintro en w3 ⟨hcase, h⟩
  have B4 := Lib.hid (B3.out.trans (h.mono B3.out.size))
  have RB4 := Lib.hid (RB3.out.then h)
  clear h MD B3 RB3
  rcases hcase with ⟨T, X, P, L, L2, rfl, ht, hpo, _, hL⟩ | rfl
  rotate_left
  · go_wp2_with fail
    go_ret
    exact ⟨rfl, B4.out⟩
  have TT := Lib.hid ht
  have NL := Lib.hid hL
  clear ht hpo hL
  obtain ⟨N, hN⟩ : ∃ N, L.length = N := ⟨_, rfl⟩
  rw [hN] at TT NL
  clear hN
  have SM4 := Lib.hid (TM0.out w3 B4.out)
  have M5 := Lib.hid (SM4.out.2.2.2.below ((Below.refl w3.heap.size w3).alloc (Nat.le_refl _) (.cells #[] 3)))
  have HOW := Lib.hid (show Own encI 1 w3.heap.size 3 (.slice (some ⟨w3.heap.size, 0, none⟩) 0 0) [] (w3.alloc (.cells #[] 3)) from own_madeT (enc := encI) (size := 1) (fun _ => rfl) [] w3 3 (by simp))
  go_wp2_with (at_builtin; refine wpList_append_rd (P := Tryz.prog) _ rfl _ _ 42 rfl w3.heap.size 3 _ _ 1 _ (by rfl) (by rfl) (by rfl) (by rfl) (by rfl) (by rfl) (by decide) (fun _ => rfl) encI_one _ 0 _ rfl HOW.out _ MA mc M mm HMM.out.symm rfl M5.out (by have := HMM.out; omega) (by decide) (by simp) ?_; intro v2 w5 ho2 hg2 hv2; refine Hid.out ?_)
  refine Lib.hid ?_
  have hO : Own encI 1 w3.heap.size 3 v2 M w5 := by
    unfold Own
    simpa using ho2
  have B35 := Lib.hid (((Below.refl w3.heap.size w3).alloc (Nat.le_refl _) (.cells #[] 3)).grown hg2 (by simp) (fun j hj => (World.ownsRow.lt HOW.out j hj).1))
  have OW5 := Lib.hid hO
  clear ho2 hg2 hv2 hO HOW M5
  have S5 := Lib.hid (SM4.out.2.2.1.below B35.out)
  go_wp2_with (at_builtin; refine wpList_append_rd (P := Tryz.prog) _ rfl _ _ 42 rfl w3.heap.size 3 _ _ 1 _ (by rfl) (by rfl) (by rfl) (by rfl) (by rfl) (by rfl) (by decide) (fun _ => rfl) encI_one _ M.length _ rfl OW5.out _ SA sc S m HM.out.symm rfl S5.out (by have := HMM.out; have := HM.out; omega) (by decide) B35.out.size ?_; intro v3 w6 ho2 hg2 hv2; refine Hid.out ?_)
  refine Lib.hid ?_
  have hO : Own encI 1 w3.heap.size 3 v3 (M ++ S) w6 := by
    unfold Own
    simpa using ho2
  have B36 := Lib.hid (B35.out.grown hg2 B35.out.size (fun j hj => (World.ownsRow.lt OW5.out j hj).1))
  obtain ⟨KA, kc, rfl, hk6⟩ := hO.rd (fun _ => rfl)
  have KR := Lib.hid hk6
  clear ho2 hg2 hv2 hO hk6 OW5 S5 SM4 B35
  obtain ⟨aln, haln⟩ : ∃ n, (M ++ S).length = n := ⟨_, rfl⟩
  rw [haln]
  have HAL := Lib.hid haln
  clear haln
  have B6 := Lib.hid (B4.out.trans (B36.out.mono B4.out.size))
  have RB6 := Lib.hid (RB4.out.then B36.out)
  have T6 := Lib.hid (TT.out.then B36.out)
  clear B36 B4 RB4 TT
  go_upto_region 7 with fail
  go_cut [61] from 47 to 60 (fun a W' => a = .bool false ∧ Below w6.heap.size w6 W')
  case first =>
    have HPL := Lib.hid (tplain_any R.ht R w6 (Nat.le_refl _) (TM0.out w6 B6.out).2.1)
    have SAT := Lib.hid (fun W (hb : Below w6.heap.size w6 W) A c S' (hR : Rd encI 1 W.heap.size A c S' W) => tsat_any (T6.out.then hb) (TM0.out W (B6.out.trans (hb.mono B6.out.size))).1 A c S' hR R (TM0.out W (B6.out.trans (hb.mono B6.out.size))).2.1 (by have := NW.out.2; omega))
    have MORE := Lib.hid (fun (h : Tr.plain R.tree = true) (h2 : Tr.satS N (pvL L2) S R.tree = true) => Tr.more_sat (M := M) h h2)
    have HAL2 := HAL.out
    unfold RV.val at HPL SAT
    generalize Tr.plain R.tree = pl at *
    obtain ⟨_, c0, c1, c2, c3, c4, c5, c6⟩ := RB6.out
    go_wp2_with fail
    go_at_call 39
    refine HPL.out.mono ?_
    rintro en w7 ⟨rfl, h⟩
    have B67 := Lib.hid h
    have RB7 := Lib.hid (RB6.out.then h)
    clear h HPL c0 c1 c2 c3 c4 c5 c6
    cases pl
    · go_wp2_with fail
      go_meet
      exact ⟨rfl, B67.out⟩
    have S7 := Lib.hid (SAT.out w7 B67.out SA sc S (TM0.out w7 (B6.out.trans (B67.out.mono B6.out.size))).2.2.1)
    rw [HM.out] at S7
    generalize Tr.satS N (pvL L2) S R.tree = s1 at *
    obtain ⟨_, c0, c1, c2, c3, c4, c5, c6⟩ := RB7.out
    go_wp2_with fail
    go_at_call 40
    refine S7.out.mono ?_
    rintro en w8 ⟨rfl, h⟩
    have B68 := Lib.hid (B67.out.trans (h.mono B67.out.size))
    have RB8 := Lib.hid (RB7.out.then h)
    clear h S7 c0 c1 c2 c3 c4 c5 c6 RB7 B67
    cases s1
    · go_wp2_with fail
      go_meet
      exact ⟨rfl, B68.out⟩
    have S8 := Lib.hid (SAT.out w8 B68.out KA kc (M ++ S) ((KR.out.below B68.out).more B68.out.size))
    rw [MORE.out (by simp) (by simp), HAL2] at S8
    obtain ⟨_, c0, c1, c2, c3, c4, c5, c6⟩ := RB8.out
    go_wp2_with fail
    go_at_call 40
    refine S8.out.mono ?_
    rintro en w9 ⟨rfl, h⟩
    have B69 := Lib.hid (B68.out.trans (h.mono B68.out.size))
    clear h S8
    go_wp2_with fail
    go_meet
    exact ⟨rfl, B69.out⟩
  case rest =>
    obtain ⟨rfl, hB⟩ := hcut
    have B7 := Lib.hid (B6.out.trans (hB.mono B6.out.size))
    have RB7 := Lib.hid (RB6.out.then hB)
    have T7 := Lib.hid (T6.out.then hB)
    have KR7 := Lib.hid ((KR.out.below hB).more hB.size)
    clear hB B6 RB6 T6 KR
    obtain ⟨WS, hWS⟩ : ∃ WS, WS = Tr.whoS N (pvL L2) S R.tree := ⟨_, rfl⟩
    obtain ⟨WB, hWB⟩ : ∃ WB, WB = Tr.whoS N (pvL L2) (M ++ S) R.tree := ⟨_, rfl⟩
    have LWS := Lib.hid (show WS.length ≤ N from by rw [hWS]; exact whoK_len N)
    have LWB := Lib.hid (show WB.length ≤ N from by rw [hWB]; exact whoK_len N)
    have MEM := Lib.hid (fun z (hz : z ∈ WS) => show z ∈ S ∧ z ∈ WB ∧ Tr.aloneS N (pvL L2) z R.tree = true from by rw [hWS] at hz; rw [hWB]; exact ⟨(Tr.who_mem hz).1, Tr.who_more hz, (Tr.who_mem hz).2⟩)
    have WH1 := Lib.hid (fun W (hb : Below wc.heap.size wc W) => show Calls Tryz.prog 41 #[.pointer (some ⟨T, 0, none⟩), .slice SA m sc, .agg #[.int .u8 R.kind, .string (bs R.dep.name), .int .u8 R.dep.op, .int .i64 R.dep.evr.epoch, .string (bs R.dep.evr.ver), .string (bs R.dep.evr.rel), .slice R.addr R.args.length R.cap]] W fun e w' => ∃ A c, e = .returned (.slice A WS.length c) ∧ Rd encI 1 w'.heap.size A c WS w' ∧ Below W.heap.size W w' from by
      have hw := B7.out.trans (hb.mono B7.out.size)
      have q := twho_any (T7.out.then hb) (TM0.out W hw).1 SA sc S (TM0.out W hw).2.2.1 R (TM0.out W hw).2.1 (by have := NW.out.2; omega)
      rw [HM.out] at q
      refine q.mono ?_
      rintro e w' ⟨v, rfl, ho, h⟩
      obtain ⟨A, c, rfl, hr⟩ := ho.rd encI_len
      rw [hWS]
      exact ⟨A, c, rfl, hr, h⟩)
    have WH2 := Lib.hid (fun W (hb : Below wc.heap.size wc W) => show Calls Tryz.prog 41 #[.pointer (some ⟨T, 0, none⟩), .slice KA aln kc, .agg #[.int .u8 R.kind, .string (bs R.dep.name), .int .u8 R.dep.op, .int .i64 R.dep.evr.epoch, .string (bs R.dep.evr.ver), .string (bs R.dep.evr.rel), .slice R.addr R.args.length R.cap]] W fun e w' => ∃ A c, e = .returned (.slice A WB.length c) ∧ Rd encI 1 w'.heap.size A c WB w' ∧ Below W.heap.size W w' from by
      have hw := B7.out.trans (hb.mono B7.out.size)
      have q := twho_any (T7.out.then hb) (TM0.out W hw).1 KA kc (M ++ S) ((KR7.out.below hb).more hb.size) R (TM0.out W hw).2.1 (by have := NW.out.2; omega)
      rw [HAL.out] at q
      refine q.mono ?_
      rintro e w' ⟨v, rfl, ho, h⟩
      obtain ⟨A, c, rfl, hr⟩ := ho.rd encI_len
      rw [hWB]
      exact ⟨A, c, rfl, hr, h⟩)
    clear hWS hWB HAL KR7 HMM hmm
    go_wp2_with fail
    refine wp_region_tail (PP := mo9 T m sc aln kc SA KA R WS WB) 10 rfl (by kernel_rfl) (by kernel_rfl) (by decide) (by decide) (mo9_mono T m sc aln kc SA KA R WS WB) (fun _ => undef) (by simp [fillV, put_someT, setIfInBounds_toArray, set_cons_zero, set_cons_succ]) ?_ ?_
    · intro i o vs W hi ho he hBW K hK
      simp only [take_succ_cons, take_zero, fillV, put_someT, setIfInBounds_toArray, set_cons_zero, set_cons_succ] at hK ⊢
      have BW := Lib.hid hBW
      have RBW := Lib.hid (RB7.out.then hBW)
      obtain rfl | rfl | rfl | rfl | rfl | rfl | rfl | rfl | rfl | rfl := (show i = 0 ∨ i = 1 ∨ i = 2 ∨ i = 3 ∨ i = 4 ∨ i = 5 ∨ i = 6 ∨ i = 7 ∨ i = 8 ∨ i = 9 by exact (by have : i < 10 := hi; omega))
      · simp only [getElem?_toArray, getElem?_cons_zero, getElem?_cons_succ, Option.some.injEq] at ho
        subst ho
        rw [if_pos (by rfl)]
        simp only [put_someT, setIfInBounds_toArray, set_cons_zero, set_cons_succ] at hK
        have HK := Lib.hid hK
        clear hK he hi hBW
        go_simp
        exact HK.out _ _ (by first | rfl | simp [mo9]) (Below.refl _ _)
      · simp only [getElem?_toArray, getElem?_cons_zero, getElem?_cons_succ, Option.some.injEq] at ho
        subst ho
        rw [if_pos (by rfl)]
        simp only [put_someT, setIfInBounds_toArray, set_cons_zero, set_cons_succ] at hK
        have HK := Lib.hid hK
        clear hK he hi hBW
        go_simp
        exact HK.out _ _ (by first | rfl | simp [mo9]) (Below.refl _ _)
      · simp only [getElem?_toArray, getElem?_cons_zero, getElem?_cons_succ, Option.some.injEq] at ho
        subst ho
        rw [if_pos (by rfl)]
        simp only [put_someT, setIfInBounds_toArray, set_cons_zero, set_cons_succ] at hK
        have HK := Lib.hid hK
        clear hK he hi hBW
        obtain ⟨_, c0, c1, c2, c3, c4, c5, c6⟩ := RBW.out
        go_simp
        exact HK.out _ _ rfl (Below.refl _ _)
      · simp only [getElem?_toArray, getElem?_cons_zero, getElem?_cons_succ, Option.some.injEq] at ho
        subst ho
        have e0 : vs 0 = .pointer (some ⟨T, 0, none⟩) := (he ⟨0, .data⟩ (by simp) rfl : mo9 T m sc aln kc SA KA R WS WB 0 (vs 0) W)
        rw [e0] at hK ⊢
        have e1 : vs 1 = .slice SA m sc := (he ⟨1, .data⟩ (by simp) rfl : mo9 T m sc aln kc SA KA R WS WB 1 (vs 1) W)
        rw [e1] at hK ⊢
        have e2 : vs 2 = .agg #[.int .u8 R.kind, .string (bs R.dep.name), .int .u8 R.dep.op, .int .i64 R.dep.evr.epoch, .string (bs R.dep.evr.ver), .string (bs R.dep.evr.rel), .slice R.addr R.args.length R.cap] := (he ⟨2, .data⟩ (by simp) rfl : mo9 T m sc aln kc SA KA R WS WB 2 (vs 2) W)
        rw [e2] at hK ⊢
        rw [if_pos (by rfl)]
        simp only [put_someT, setIfInBounds_toArray, set_cons_zero, set_cons_succ] at hK
        have HK := Lib.hid hK
        clear hK he hi hBW
        have WHW := WH1.out W BW.out
        go_simp
        go_at_call 41
        refine WHW.mono ?_
        rintro en w9 ⟨A9, c9, rfl, hr9, h⟩
        go_simp
        exact HK.out _ _ ⟨A9, c9, rfl, hr9⟩ h
      · simp only [getElem?_toArray, getElem?_cons_zero, getElem?_cons_succ, Option.some.injEq] at ho
        subst ho
        rw [if_pos (by rfl)]
        simp only [put_someT, setIfInBounds_toArray, set_cons_zero, set_cons_succ] at hK
        have HK := Lib.hid hK
        clear hK he hi hBW
        go_simp
        exact HK.out _ _ (by first | rfl | simp [mo9]) (Below.refl _ _)
      · simp only [getElem?_toArray, getElem?_cons_zero, getElem?_cons_succ, Option.some.injEq] at ho
        subst ho
        rw [if_pos (by rfl)]
        simp only [put_someT, setIfInBounds_toArray, set_cons_zero, set_cons_succ] at hK
        have HK := Lib.hid hK
        clear hK he hi hBW
        go_simp
        exact HK.out _ _ (by first | rfl | simp [mo9]) (Below.refl _ _)
      · simp only [getElem?_toArray, getElem?_cons_zero, getElem?_cons_succ, Option.some.injEq] at ho
        subst ho
        rw [if_pos (by rfl)]
        simp only [put_someT, setIfInBounds_toArray, set_cons_zero, set_cons_succ] at hK
        have HK := Lib.hid hK
        clear hK he hi hBW
        obtain ⟨_, c0, c1, c2, c3, c4, c5, c6⟩ := RBW.out
        go_simp
        exact HK.out _ _ rfl (Below.refl _ _)
      · simp only [getElem?_toArray, getElem?_cons_zero, getElem?_cons_succ, Option.some.injEq] at ho
        subst ho
        have e4 : vs 4 = .pointer (some ⟨T, 0, none⟩) := (he ⟨4, .data⟩ (by simp) rfl : mo9 T m sc aln kc SA KA R WS WB 4 (vs 4) W)
        rw [e4] at hK ⊢
        have e5 : vs 5 = .slice KA aln kc := (he ⟨5, .data⟩ (by simp) rfl : mo9 T m sc aln kc SA KA R WS WB 5 (vs 5) W)
        rw [e5] at hK ⊢
        have e6 : vs 6 = .agg #[.int .u8 R.kind, .string (bs R.dep.name), .int .u8 R.dep.op, .int .i64 R.dep.evr.epoch, .string (bs R.dep.evr.ver), .string (bs R.dep.evr.rel), .slice R.addr R.args.length R.cap] := (he ⟨6, .data⟩ (by simp) rfl : mo9 T m sc aln kc SA KA R WS WB 6 (vs 6) W)
        rw [e6] at hK ⊢
        rw [if_pos (by rfl)]
        simp only [put_someT, setIfInBounds_toArray, set_cons_zero, set_cons_succ] at hK
        have HK := Lib.hid hK
        clear hK he hi hBW
        have WHW := WH2.out W BW.out
        go_simp
        go_at_call 41
        refine WHW.mono ?_
        rintro en w9 ⟨A9, c9, rfl, hr9, h⟩
        go_simp
        exact HK.out _ _ ⟨A9, c9, rfl, hr9⟩ h
      · simp only [getElem?_toArray, getElem?_cons_zero, getElem?_cons_succ, Option.some.injEq] at ho
        subst ho
        obtain ⟨A9, c9, e9, r9⟩ := (he ⟨3, .data⟩ (by simp) rfl : mo9 T m sc aln kc SA KA R WS WB 3 (vs 3) W)
        rw [e9] at hK ⊢
        have R9 := Lib.hid r9
        rw [if_pos (by rfl)]
        simp only [put_someT, setIfInBounds_toArray, set_cons_zero, set_cons_succ] at hK
        have HK := Lib.hid hK
        clear hK he hi hBW
        go_simp
        exact HK.out _ _ ⟨A9, c9, rfl, R9.out⟩ (Below.refl _ _)
      · simp only [getElem?_toArray, getElem?_cons_zero, getElem?_cons_succ, Option.some.injEq] at ho
        subst ho
        obtain ⟨A9, c9, e9, r9⟩ := (he ⟨7, .data⟩ (by simp) rfl : mo9 T m sc aln kc SA KA R WS WB 7 (vs 7) W)
        rw [e9] at hK ⊢
        have R9 := Lib.hid r9
        rw [if_pos (by rfl)]
        simp only [put_someT, setIfInBounds_toArray, set_cons_zero, set_cons_succ] at hK
        have HK := Lib.hid hK
        clear hK he hi hBW
        go_simp
        exact HK.out _ _ ⟨A9, c9, rfl, R9.out⟩ (Below.refl _ _)
    · intro vs W8 hall hBW
      obtain ⟨WA, wac, e8, r8⟩ := hall 8 (by decide)
      obtain ⟨BA, bac, e9, r9⟩ := hall 9 (by decide)
      simp only [take_succ_cons, take_zero, List.drop_succ_cons, List.drop_zero, fillV, put_someT, put_noneC, setIfInBounds_toArray, set_cons_zero, set_cons_succ]
      rw [e8, e9]
      generalize vs 0 = y0
      generalize vs 1 = y1
      generalize vs 2 = y2
      generalize vs 3 = y3
      generalize vs 4 = y4
      generalize vs 5 = y5
      generalize vs 6 = y6
      generalize vs 7 = y7
      have B8 := Lib.hid (B7.out.trans (hBW.mono B7.out.size))
      have RB8 := Lib.hid (RB7.out.then hBW)
      have T8 := Lib.hid (T7.out.then hBW)
      have W8R := Lib.hid r8
      have W8B := Lib.hid r9
      clear hall hBW e8 e9 r8 r9 B7 RB7 T7 WH1 WH2
      obtain ⟨wn, hwn⟩ : ∃ wn, WS.length = wn := ⟨_, rfl⟩
      obtain ⟨bn, hbn⟩ : ∃ bn, WB.length = bn := ⟨_, rfl⟩
      rw [hwn, hbn]
      rw [hwn] at LWS
      rw [hbn] at LWB
      have HWN := Lib.hid hwn
      have HBN := Lib.hid hbn
      have hwn1 : wn ≤ 1000 := by have := LWS.out; have := NL.out; omega
      clear hwn hbn
      go_wp2_with fail
      go_loopw [17] (fun iv wr => ∃ k : Nat, k ≤ wn ∧ iv = .int .i64 (k : Int) ∧ Below W8.heap.size W8 wr) (fun iv _ => wn - (intOf iv).toNat)
      case atStart => exact ⟨0, by omega, rfl, Below.refl _ _⟩
      case round =>
        obtain ⟨k, hk, rfl, hB⟩ := hrel
        rename World => wr
        have HB := Lib.hid hB
        have RBR := Lib.hid (RB8.out.then hB)
        have BR := Lib.hid (B8.out.trans (hB.mono B8.out.size))
        by_cases hlt : k < wn
        · have hkl : k < WS.length := by have := HWN.out; omega
          obtain ⟨b, oo, hA, hb, e0⟩ := ((W8R.out.below hB).more hB.size).int_at hkl
          obtain ⟨m1, m2, m3⟩ := MEM.out _ (List.getElem_mem hkl)
          obtain ⟨x, hx⟩ : ∃ x, WS[k] = x := ⟨_, rfl⟩
          rw [hx] at e0 m1 m2 m3
          subst hA
          have HA1 := Lib.hid (fun W (hb : Below wr.heap.size wr W) => show Calls Tryz.prog 42 #[.slice SA m sc, .int .i64 x] W fun e w' => e = .returned (.bool true) ∧ Below W.heap.size W w' from by
            have q := has14_any SA sc S x W (by have := HM.out; omega) (TM0.out W (BR.out.trans (hb.mono BR.out.size))).2.2.1
            rw [HM.out, List.contains_iff_mem.2 m1] at q
            exact q)
          have HA2 := Lib.hid (fun W (hb : Below wr.heap.size wr W) => show Calls Tryz.prog 42 #[.slice BA bn bac, .int .i64 x] W fun e w' => e = .returned (.bool true) ∧ Below W.heap.size W w' from by
            have hh := HB.out.trans (hb.mono HB.out.size)
            have q := has14_any BA bac WB x W (by have := HBN.out; have := LWB.out; have := NL.out; omega) ((W8B.out.below hh).more hh.size)
            rw [HBN.out, List.contains_iff_mem.2 m2] at q
            exact q)
          have AL1 := Lib.hid (fun W (hb : Below wr.heap.size wr W) => show Calls Tryz.prog 43 #[.pointer (some ⟨T, 0, none⟩), .int .i64 x, .agg #[.int .u8 R.kind, .string (bs R.dep.name), .int .u8 R.dep.op, .int .i64 R.dep.evr.epoch, .string (bs R.dep.evr.ver), .string (bs R.dep.evr.rel), .slice R.addr R.args.length R.cap]] W fun e w' => e = .returned (.bool true) ∧ Below W.heap.size W w' from by
            have hh := HB.out.trans (hb.mono HB.out.size)
            have hw := BR.out.trans (hb.mono BR.out.size)
            have q := talone_any (T8.out.then hh) (TM0.out W hw).1 x R (TM0.out W hw).2.1 (by have := NW.out.2; omega)
            rw [m3] at q
            exact q)
          have EX := Lib.hid e0
          have HBL := Lib.hid hb
          have I0 := Lib.hid (show (0 : Int) ≤ (k : Int) by omega)
          have I1 := Lib.hid (show (k : Int) < (wn : Int) by omega)
          have i1 := I1.out
          clear hB hb e0 m1 m2 m3 hx hkl MEM W8R
          go_wp2_with fail
          refine wp_region_tail (PP := mo13 T m sc b oo wn wac bn bac k SA BA R x) 26 rfl (by kernel_rfl) (by kernel_rfl) (by decide) (by decide) (mo13_mono T m sc b oo wn wac bn bac k SA BA R x) (fun ii => match ii with | 0 => u76 | 1 => u77 | 2 => u78 | 3 => u79 | 4 => u80 | 5 => u81 | 6 => u82 | 7 => u83 | 8 => u84 | 9 => u85 | 10 => u86 | 11 => u87 | 12 => u88 | 13 => u89 | 14 => u90 | 15 => u91 | 16 => u92 | 17 => u93 | 18 => u94 | 19 => u95 | 20 => u96 | 21 => u97 | 22 => u98 | 23 => u99 | 24 => u100 | 25 => u101 | _ => undef) (by simp [fillV, put_someT, setIfInBounds_toArray, set_cons_zero, set_cons_succ]) ?_ ?_
          · intro i o vs W hi ho he hBW K hK
            simp only [take_succ_cons, take_zero, fillV, put_someT, setIfInBounds_toArray, set_cons_zero, set_cons_succ] at hK ⊢
            have BW := Lib.hid hBW
            have RBW := Lib.hid (RBR.out.then hBW)
            have EXW := Lib.hid ((hBW.cell (p := ⟨b, oo + k, none⟩) HBL.out).trans EX.out)
            obtain rfl | rfl | rfl | rfl | rfl | rfl | rfl | rfl | rfl | rfl | rfl | rfl | rfl | rfl | rfl | rfl | rfl | rfl | rfl | rfl | rfl | rfl | rfl | rfl | rfl | rfl := (show i = 0 ∨ i = 1 ∨ i = 2 ∨ i = 3 ∨ i = 4 ∨ i = 5 ∨ i = 6 ∨ i = 7 ∨ i = 8 ∨ i = 9 ∨ i = 10 ∨ i = 11 ∨ i = 12 ∨ i = 13 ∨ i = 14 ∨ i = 15 ∨ i = 16 ∨ i = 17 ∨ i = 18 ∨ i = 19 ∨ i = 20 ∨ i = 21 ∨ i = 22 ∨ i = 23 ∨ i = 24 ∨ i = 25 by exact (by have : i < 26 := hi; omega))
            · simp only [getElem?_toArray, getElem?_cons_zero, getElem?_cons_succ, Option.some.injEq] at ho
              subst ho
              rw [if_pos (by rfl)]
              simp only [put_someT, setIfInBounds_toArray, set_cons_zero, set_cons_succ] at hK
              have HK := Lib.hid hK
              clear hK he hi hBW
              go_simp
              exact HK.out _ _ (by first | rfl | simp [mo13]) (Below.refl _ _)
            · simp only [getElem?_toArray, getElem?_cons_zero, getElem?_cons_succ, Option.some.injEq] at ho
              subst ho
              rw [if_pos (by rfl)]
              simp only [put_someT, setIfInBounds_toArray, set_cons_zero, set_cons_succ] at hK
              have HK := Lib.hid hK
              clear hK he hi hBW
              go_simp
              exact HK.out _ _ (by first | rfl | simp [mo13]) (Below.refl _ _)
            · simp only [getElem?_toArray, getElem?_cons_zero, getElem?_cons_succ, Option.some.injEq] at ho
              subst ho
              rw [if_pos (by rfl)]
              simp only [put_someT, setIfInBounds_toArray, set_cons_zero, set_cons_succ] at hK
              have HK := Lib.hid hK
              clear hK he hi hBW
              go_simp
              exact HK.out _ _ (by first | rfl | simp [mo13]) (Below.refl _ _)
            · simp only [getElem?_toArray, getElem?_cons_zero, getElem?_cons_succ, Option.some.injEq] at ho
              subst ho
              have e1 : vs 1 = .slice (some ⟨b, oo, none⟩) wn wac := (he ⟨1, .data⟩ (by simp) rfl : mo13 T m sc b oo wn wac bn bac k SA BA R x 1 (vs 1) W)
              rw [e1] at hK ⊢
              have e2 : vs 2 = .int .i64 (k : Int) := (he ⟨2, .data⟩ (by simp) rfl : mo13 T m sc b oo wn wac bn bac k SA BA R x 2 (vs 2) W)
              rw [e2] at hK ⊢
              rw [if_pos (by rfl)]
              simp only [put_someT, setIfInBounds_toArray, set_cons_zero, set_cons_succ] at hK
              have HK := Lib.hid hK
              clear hK he hi hBW
              have i0 := I0.out
              have i1 := I1.out
              go_simp
              exact HK.out _ _ (by simp [mo13]) (Below.refl _ _)
            · simp only [getElem?_toArray, getElem?_cons_zero, getElem?_cons_succ, Option.some.injEq] at ho
              subst ho
              have e3 : vs 3 = .pointer (some ⟨b, oo + k, none⟩) := (he ⟨3, .data⟩ (by simp) rfl : mo13 T m sc b oo wn wac bn bac k SA BA R x 3 (vs 3) W)
              rw [e3] at hK ⊢
              rw [if_pos (by rfl)]
              simp only [put_someT, setIfInBounds_toArray, set_cons_zero, set_cons_succ] at hK
              have HK := Lib.hid hK
              clear hK he hi hBW
              have e0 := EXW.out
              go_simp
              exact HK.out _ _ rfl (Below.refl _ _)
            · simp only [getElem?_toArray, getElem?_cons_zero, getElem?_cons_succ, Option.some.injEq] at ho
              subst ho
              have e0 : vs 0 = .slice SA m sc := (he ⟨0, .data⟩ (by simp) rfl : mo13 T m sc b oo wn wac bn bac k SA BA R x 0 (vs 0) W)
              rw [e0] at hK ⊢
              have e4 : vs 4 = .int .i64 x := (he ⟨4, .data⟩ (by simp) rfl : mo13 T m sc b oo wn wac bn bac k SA BA R x 4 (vs 4) W)
              rw [e4] at hK ⊢
              rw [if_pos (by rfl)]
              simp only [put_someT, setIfInBounds_toArray, set_cons_zero, set_cons_succ] at hK
              have HK := Lib.hid hK
              clear hK he hi hBW
              have HSW := HA1.out W BW.out
              go_simp
              go_at_call 42
              refine HSW.mono ?_
              rintro en w9 ⟨rfl, h⟩
              go_simp
              exact HK.out _ _ rfl h
            · simp only [getElem?_toArray, getElem?_cons_zero, getElem?_cons_succ, Option.some.injEq] at ho
              subst ho
              have e5 : vs 5 = .bool true := (he ⟨5, .data⟩ (by simp) rfl : mo13 T m sc b oo wn wac bn bac k SA BA R x 5 (vs 5) W)
              rw [e5] at hK ⊢
              rw [if_pos (by rfl)]
              simp only [put_someT, setIfInBounds_toArray, set_cons_zero, set_cons_succ] at hK
              have HK := Lib.hid hK
              clear hK he hi hBW
              go_simp
              exact HK.out _ _ (by first | rfl | simp [mo13]) (Below.refl _ _)
            · simp only [getElem?_toArray, getElem?_cons_zero, getElem?_cons_succ, Option.some.injEq] at ho
              subst ho
              have e6 : vs 6 = .bool false := (he ⟨6, .data⟩ (by simp) rfl : mo13 T m sc b oo wn wac bn bac k SA BA R x 6 (vs 6) W)
              rw [e6] at hK ⊢
              rw [if_pos (by rfl)]
              simp only [put_someT, setIfInBounds_toArray, set_cons_zero, set_cons_succ] at hK
              have HK := Lib.hid hK
              clear hK he hi hBW
              go_simp
              exact HK.out _ _ (by first | rfl | simp [mo13]) (Below.refl _ _)
            · simp only [getElem?_toArray, getElem?_cons_zero, getElem?_cons_succ, Option.some.injEq] at ho
              subst ho
              have e7 : vs 7 = .bool false := (he ⟨7, .guard⟩ (by simp) rfl : mo13 T m sc b oo wn wac bn bac k SA BA R x 7 (vs 7) W)
              rw [e7] at hK ⊢
              rw [if_pos (by rfl)]
              simp only [put_someT, setIfInBounds_toArray, set_cons_zero, set_cons_succ] at hK
              have HK := Lib.hid hK
              clear hK he hi hBW
              go_simp
              exact HK.out _ _ (by first | rfl | simp [mo13]) (Below.refl _ _)
            · simp only [getElem?_toArray, getElem?_cons_zero, getElem?_cons_succ, Option.some.injEq] at ho
              subst ho
              have e7 : vs 7 = .bool false := (he ⟨7, .guard⟩ (by simp) rfl : mo13 T m sc b oo wn wac bn bac k SA BA R x 7 (vs 7) W)
              rw [e7] at hK ⊢
              rw [if_pos (by rfl)]
              simp only [put_someT, setIfInBounds_toArray, set_cons_zero, set_cons_succ] at hK
              have HK := Lib.hid hK
              clear hK he hi hBW
              go_simp
              exact HK.out _ _ (by first | rfl | simp [mo13]) (Below.refl _ _)
            · simp only [getElem?_toArray, getElem?_cons_zero, getElem?_cons_succ, Option.some.injEq] at ho
              subst ho
              have e7 : vs 7 = .bool false := (he ⟨7, .guard⟩ (by simp) rfl : mo13 T m sc b oo wn wac bn bac k SA BA R x 7 (vs 7) W)
              rw [e7] at hK ⊢
              rw [if_pos (by rfl)]
              simp only [put_someT, setIfInBounds_toArray, set_cons_zero, set_cons_succ] at hK
              have HK := Lib.hid hK
              clear hK he hi hBW
              go_simp
              exact HK.out _ _ (by first | rfl | simp [mo13]) (Below.refl _ _)
            · simp only [getElem?_toArray, getElem?_cons_zero, getElem?_cons_succ, Option.some.injEq] at ho
              subst ho
              have e9 : vs 9 = .slice (some ⟨b, oo, none⟩) wn wac := (he ⟨9, .data⟩ (by simp) rfl : mo13 T m sc b oo wn wac bn bac k SA BA R x 9 (vs 9) W)
              rw [e9] at hK ⊢
              have e10 : vs 10 = .int .i64 (k : Int) := (he ⟨10, .data⟩ (by simp) rfl : mo13 T m sc b oo wn wac bn bac k SA BA R x 10 (vs 10) W)
              rw [e10] at hK ⊢
              have e7 : vs 7 = .bool false := (he ⟨7, .guard⟩ (by simp) rfl : mo13 T m sc b oo wn wac bn bac k SA BA R x 7 (vs 7) W)
              rw [e7] at hK ⊢
              rw [if_pos (by rfl)]
              simp only [put_someT, setIfInBounds_toArray, set_cons_zero, set_cons_succ] at hK
              have HK := Lib.hid hK
              clear hK he hi hBW
              have i0 := I0.out
              have i1 := I1.out
              go_simp
              exact HK.out _ _ (by simp [mo13]) (Below.refl _ _)
            · simp only [getElem?_toArray, getElem?_cons_zero, getElem?_cons_succ, Option.some.injEq] at ho
              subst ho
              have e11 : vs 11 = .pointer (some ⟨b, oo + k, none⟩) := (he ⟨11, .data⟩ (by simp) rfl : mo13 T m sc b oo wn wac bn bac k SA BA R x 11 (vs 11) W)
              rw [e11] at hK ⊢
              have e7 : vs 7 = .bool false := (he ⟨7, .guard⟩ (by simp) rfl : mo13 T m sc b oo wn wac bn bac k SA BA R x 7 (vs 7) W)
              rw [e7] at hK ⊢
              rw [if_pos (by rfl)]
              simp only [put_someT, setIfInBounds_toArray, set_cons_zero, set_cons_succ] at hK
              have HK := Lib.hid hK
              clear hK he hi hBW
              have e0 := EXW.out
              go_simp
              exact HK.out _ _ rfl (Below.refl _ _)
            · simp only [getElem?_toArray, getElem?_cons_zero, getElem?_cons_succ, Option.some.injEq] at ho
              subst ho
              have e8 : vs 8 = .slice BA bn bac := (he ⟨8, .data⟩ (by simp) rfl : mo13 T m sc b oo wn wac bn bac k SA BA R x 8 (vs 8) W)
              rw [e8] at hK ⊢
              have e12 : vs 12 = .int .i64 x := (he ⟨12, .data⟩ (by simp) rfl : mo13 T m sc b oo wn wac bn bac k SA BA R x 12 (vs 12) W)
              rw [e12] at hK ⊢
              have e7 : vs 7 = .bool false := (he ⟨7, .guard⟩ (by simp) rfl : mo13 T m sc b oo wn wac bn bac k SA BA R x 7 (vs 7) W)
              rw [e7] at hK ⊢
              rw [if_pos (by rfl)]
              simp only [put_someT, setIfInBounds_toArray, set_cons_zero, set_cons_succ] at hK
              have HK := Lib.hid hK
              clear hK he hi hBW
              have HSW := HA2.out W BW.out
              go_simp
              go_at_call 42
              refine HSW.mono ?_
              rintro en w9 ⟨rfl, h⟩
              go_simp
              exact HK.out _ _ rfl h
            · simp only [getElem?_toArray, getElem?_cons_zero, getElem?_cons_succ, Option.some.injEq] at ho
              subst ho
              have e13 : vs 13 = .bool true := (he ⟨13, .data⟩ (by simp) rfl : mo13 T m sc b oo wn wac bn bac k SA BA R x 13 (vs 13) W)
              rw [e13] at hK ⊢
              have e7 : vs 7 = .bool false := (he ⟨7, .guard⟩ (by simp) rfl : mo13 T m sc b oo wn wac bn bac k SA BA R x 7 (vs 7) W)
              rw [e7] at hK ⊢
              rw [if_pos (by rfl)]
              simp only [put_someT, setIfInBounds_toArray, set_cons_zero, set_cons_succ] at hK
              have HK := Lib.hid hK
              clear hK he hi hBW
              go_simp
              exact HK.out _ _ (by first | rfl | simp [mo13]) (Below.refl _ _)
            · simp only [getElem?_toArray, getElem?_cons_zero, getElem?_cons_succ, Option.some.injEq] at ho
              subst ho
              have e7 : vs 7 = .bool false := (he ⟨7, .data⟩ (by simp) rfl : mo13 T m sc b oo wn wac bn bac k SA BA R x 7 (vs 7) W)
              rw [e7] at hK ⊢
              have e14 : vs 14 = .bool false := (he ⟨14, .data⟩ (by simp) rfl : mo13 T m sc b oo wn wac bn bac k SA BA R x 14 (vs 14) W)
              rw [e14] at hK ⊢
              rw [if_pos (by rfl)]
              simp only [put_someT, setIfInBounds_toArray, set_cons_zero, set_cons_succ] at hK
              have HK := Lib.hid hK
              clear hK he hi hBW
              go_simp
              exact HK.out _ _ (by first | rfl | simp [mo13]) (Below.refl _ _)
            · simp only [getElem?_toArray, getElem?_cons_zero, getElem?_cons_succ, Option.some.injEq] at ho
              subst ho
              have e15 : vs 15 = .bool false := (he ⟨15, .data⟩ (by simp) rfl : mo13 T m sc b oo wn wac bn bac k SA BA R x 15 (vs 15) W)
              rw [e15] at hK ⊢
              rw [if_pos (by rfl)]
              simp only [put_someT, setIfInBounds_toArray, set_cons_zero, set_cons_succ] at hK
              have HK := Lib.hid hK
              clear hK he hi hBW
              go_simp
              exact HK.out _ _ (by first | rfl | simp [mo13]) (Below.refl _ _)
            · simp only [getElem?_toArray, getElem?_cons_zero, getElem?_cons_succ, Option.some.injEq] at ho
              subst ho
              have e16 : vs 16 = .bool false := (he ⟨16, .guard⟩ (by simp) rfl : mo13 T m sc b oo wn wac bn bac k SA BA R x 16 (vs 16) W)
              rw [e16] at hK ⊢
              rw [if_pos (by rfl)]
              simp only [put_someT, setIfInBounds_toArray, set_cons_zero, set_cons_succ] at hK
              have HK := Lib.hid hK
              clear hK he hi hBW
              go_simp
              exact HK.out _ _ (by first | rfl | simp [mo13]) (Below.refl _ _)
            · simp only [getElem?_toArray, getElem?_cons_zero, getElem?_cons_succ, Option.some.injEq] at ho
              subst ho
              have e16 : vs 16 = .bool false := (he ⟨16, .guard⟩ (by simp) rfl : mo13 T m sc b oo wn wac bn bac k SA BA R x 16 (vs 16) W)
              rw [e16] at hK ⊢
              rw [if_pos (by rfl)]
              simp only [put_someT, setIfInBounds_toArray, set_cons_zero, set_cons_succ] at hK
              have HK := Lib.hid hK
              clear hK he hi hBW
              go_simp
              exact HK.out _ _ (by first | rfl | simp [mo13]) (Below.refl _ _)
            · simp only [getElem?_toArray, getElem?_cons_zero, getElem?_cons_succ, Option.some.injEq] at ho
              subst ho
              have e16 : vs 16 = .bool false := (he ⟨16, .guard⟩ (by simp) rfl : mo13 T m sc b oo wn wac bn bac k SA BA R x 16 (vs 16) W)
              rw [e16] at hK ⊢
              rw [if_pos (by rfl)]
              simp only [put_someT, setIfInBounds_toArray, set_cons_zero, set_cons_succ] at hK
              have HK := Lib.hid hK
              clear hK he hi hBW
              go_simp
              exact HK.out _ _ (by first | rfl | simp [mo13]) (Below.refl _ _)
            · simp only [getElem?_toArray, getElem?_cons_zero, getElem?_cons_succ, Option.some.injEq] at ho
              subst ho
              have e18 : vs 18 = .slice (some ⟨b, oo, none⟩) wn wac := (he ⟨18, .data⟩ (by simp) rfl : mo13 T m sc b oo wn wac bn bac k SA BA R x 18 (vs 18) W)
              rw [e18] at hK ⊢
              have e19 : vs 19 = .int .i64 (k : Int) := (he ⟨19, .data⟩ (by simp) rfl : mo13 T m sc b oo wn wac bn bac k SA BA R x 19 (vs 19) W)
              rw [e19] at hK ⊢
              have e16 : vs 16 = .bool false := (he ⟨16, .guard⟩ (by simp) rfl : mo13 T m sc b oo wn wac bn bac k SA BA R x 16 (vs 16) W)
              rw [e16] at hK ⊢
              rw [if_pos (by rfl)]
              simp only [put_someT, setIfInBounds_toArray, set_cons_zero, set_cons_succ] at hK
              have HK := Lib.hid hK
              clear hK he hi hBW
              have i0 := I0.out
              have i1 := I1.out
              go_simp
              exact HK.out _ _ (by simp [mo13]) (Below.refl _ _)
            · simp only [getElem?_toArray, getElem?_cons_zero, getElem?_cons_succ, Option.some.injEq] at ho
              subst ho
              have e20 : vs 20 = .pointer (some ⟨b, oo + k, none⟩) := (he ⟨20, .data⟩ (by simp) rfl : mo13 T m sc b oo wn wac bn bac k SA BA R x 20 (vs 20) W)
              rw [e20] at hK ⊢
              have e16 : vs 16 = .bool false := (he ⟨16, .guard⟩ (by simp) rfl : mo13 T m sc b oo wn wac bn bac k SA BA R x 16 (vs 16) W)
              rw [e16] at hK ⊢
              rw [if_pos (by rfl)]
              simp only [put_someT, setIfInBounds_toArray, set_cons_zero, set_cons_succ] at hK
              have HK := Lib.hid hK
              clear hK he hi hBW
              have e0 := EXW.out
              go_simp
              exact HK.out _ _ rfl (Below.refl _ _)
            · simp only [getElem?_toArray, getElem?_cons_zero, getElem?_cons_succ, Option.some.injEq] at ho
              subst ho
              have e16 : vs 16 = .bool false := (he ⟨16, .guard⟩ (by simp) rfl : mo13 T m sc b oo wn wac bn bac k SA BA R x 16 (vs 16) W)
              rw [e16] at hK ⊢
              rw [if_pos (by rfl)]
              simp only [put_someT, setIfInBounds_toArray, set_cons_zero, set_cons_succ] at hK
              have HK := Lib.hid hK
              clear hK he hi hBW
              obtain ⟨_, c0, c1, c2, c3, c4, c5, c6⟩ := RBW.out
              go_simp
              exact HK.out _ _ rfl (Below.refl _ _)
            · simp only [getElem?_toArray, getElem?_cons_zero, getElem?_cons_succ, Option.some.injEq] at ho
              subst ho
              have e17 : vs 17 = .pointer (some ⟨T, 0, none⟩) := (he ⟨17, .data⟩ (by simp) rfl : mo13 T m sc b oo wn wac bn bac k SA BA R x 17 (vs 17) W)
              rw [e17] at hK ⊢
              have e21 : vs 21 = .int .i64 x := (he ⟨21, .data⟩ (by simp) rfl : mo13 T m sc b oo wn wac bn bac k SA BA R x 21 (vs 21) W)
              rw [e21] at hK ⊢
              have e22 : vs 22 = .agg #[.int .u8 R.kind, .string (bs R.dep.name), .int .u8 R.dep.op, .int .i64 R.dep.evr.epoch, .string (bs R.dep.evr.ver), .string (bs R.dep.evr.rel), .slice R.addr R.args.length R.cap] := (he ⟨22, .data⟩ (by simp) rfl : mo13 T m sc b oo wn wac bn bac k SA BA R x 22 (vs 22) W)
              rw [e22] at hK ⊢
              have e16 : vs 16 = .bool false := (he ⟨16, .guard⟩ (by simp) rfl : mo13 T m sc b oo wn wac bn bac k SA BA R x 16 (vs 16) W)
              rw [e16] at hK ⊢
              rw [if_pos (by rfl)]
              simp only [put_someT, setIfInBounds_toArray, set_cons_zero, set_cons_succ] at hK
              have HK := Lib.hid hK
              clear hK he hi hBW
              have ALW := AL1.out W BW.out
              go_simp
              go_at_call 43
              refine ALW.mono ?_
              rintro en w9 ⟨rfl, h⟩
              go_simp
              exact HK.out _ _ rfl h
            · simp only [getElem?_toArray, getElem?_cons_zero, getElem?_cons_succ, Option.some.injEq] at ho
              subst ho
              have e23 : vs 23 = .bool true := (he ⟨23, .data⟩ (by simp) rfl : mo13 T m sc b oo wn wac bn bac k SA BA R x 23 (vs 23) W)
              rw [e23] at hK ⊢
              have e16 : vs 16 = .bool false := (he ⟨16, .guard⟩ (by simp) rfl : mo13 T m sc b oo wn wac bn bac k SA BA R x 16 (vs 16) W)
              rw [e16] at hK ⊢
              rw [if_pos (by rfl)]
              simp only [put_someT, setIfInBounds_toArray, set_cons_zero, set_cons_succ] at hK
              have HK := Lib.hid hK
              clear hK he hi hBW
              go_simp
              exact HK.out _ _ (by first | rfl | simp [mo13]) (Below.refl _ _)
            · simp only [getElem?_toArray, getElem?_cons_zero, getElem?_cons_succ, Option.some.injEq] at ho
              subst ho
              have e16 : vs 16 = .bool false := (he ⟨16, .data⟩ (by simp) rfl : mo13 T m sc b oo wn wac bn bac k SA BA R x 16 (vs 16) W)
              rw [e16] at hK ⊢
              have e24 : vs 24 = .bool false := (he ⟨24, .data⟩ (by simp) rfl : mo13 T m sc b oo wn wac bn bac k SA BA R x 24 (vs 24) W)
              rw [e24] at hK ⊢
              rw [if_pos (by rfl)]
              simp only [put_someT, setIfInBounds_toArray, set_cons_zero, set_cons_succ] at hK
              have HK := Lib.hid hK
              clear hK he hi hBW
              go_simp
              exact HK.out _ _ (by first | rfl | simp [mo13]) (Below.refl _ _)
          · intro vs W9 hall hBW
            have eo : vs 25 = .bool false := hall 25 (by decide)
            simp only [take_succ_cons, take_zero, List.drop_succ_cons, List.drop_zero, fillV, put_someT, put_noneC, setIfInBounds_toArray, set_cons_zero, set_cons_succ]
            rw [eo]
            generalize vs 0 = q0
            generalize vs 1 = q1
            generalize vs 2 = q2
            generalize vs 3 = q3
            generalize vs 4 = q4
            generalize vs 5 = q5
            generalize vs 6 = q6
            generalize vs 7 = q7
            generalize vs 8 = q8
            generalize vs 9 = q9
            generalize vs 10 = q10
            generalize vs 11 = q11
            generalize vs 12 = q12
            generalize vs 13 = q13
            generalize vs 14 = q14
            generalize vs 15 = q15
            generalize vs 16 = q16
            generalize vs 17 = q17
            generalize vs 18 = q18
            generalize vs 19 = q19
            generalize vs 20 = q20
            generalize vs 21 = q21
            generalize vs 22 = q22
            generalize vs 23 = q23
            generalize vs 24 = q24
            have B9 := Lib.hid (HB.out.trans (hBW.mono HB.out.size))
            clear hall hBW eo
            go_wp2_with fail
            go_roundw
            case rel => exact ⟨k + 1, by omega, by go_num, B9.out⟩
            case measure => simp [intOf]; omega
        · obtain rfl : k = wn := by omega
          have i1 : ¬ (k : Int) < (k : Int) := by omega
          go_wp2_with fail
          go_ret
          exact ⟨rfl, BR.out⟩
end Go.Proofs.YteobmfpbgnmffaaGreatDoor
