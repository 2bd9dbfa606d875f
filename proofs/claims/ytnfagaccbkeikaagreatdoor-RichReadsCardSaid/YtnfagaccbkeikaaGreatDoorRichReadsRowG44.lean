/- RichShow, RichAw0, RichAtomW -/
import Derived.Test.YtnfagaccbkeikaaGreatDoorRichReadsRowG43
import Derived.Test.YtnfagaccbkeikaaGreatDoorRichReadsRowG34
import Derived.Test.YtnfagaccbkeikaaGreatDoorRichReadsRowG18
import Derived.Test.YtnfagaccbkeikaaGreatDoorRichReadsRowG33
import Derived.Test.YtnfagaccbkeikaaGreatDoorRichReadsRowG15
namespace Go.Proofs.YtnfagaccbkeikaaGreatDoor
section
/- Walks: is a rich dependency whole, its words, its text (rich.Whole, Words, Show). -/




open Go.RowKit Go.Shelf
set_option linter.unusedVariables false

set_option maxRecDepth 100000 in
set_option maxHeartbeats 4000000 in
theorem rwhole_any (t : RV) (w : World) (hp : t.tree.parts ≤ 1000000) (ht : RTree w.heap.size w t) (hI : RichIn w) : Calls Tryz.prog 123 #[t.val] w fun e w' => e = .returned (.bool t.tree.whole) ∧ Below w.heap.size w w' := by
  have HC := Lib.hid (rmeasure_any t.ht t (w.alloc (.cells #[.int .u8 t.kind, .string (bs t.dep.name), .int .u8 t.dep.op, .int .i64 t.dep.evr.epoch, .string (bs t.dep.evr.ver), .string (bs t.dep.evr.rel), .slice t.addr t.args.length t.cap] 29)) (Nat.le_refl _) hp ((ht.keeps ((Below.refl _ _).alloc (Nat.le_refl _) _)).more (by simp)) (hI.below ((Below.refl _ _).alloc (Nat.le_refl _) _)))
  have HP := Lib.hid hp
  unfold MeasPost at HC
  unfold RV.val at HC ⊢
  clear ht hI hp
  generalize t.args.length = m at *
  go_enter Tryz.func123, Tryz.ntmps123
  go_wp2_with fail
  go_at_call 169
  refine HC.out.mono ?_
  rintro en w1 ⟨p, d, rfl, h1, h2, h3, hb⟩
  have HB := Lib.hid (((Below.refl w.heap.size w).alloc (Nat.le_refl _) _).trans (hb.mono (by simp)))
  have H3 := Lib.hid h3
  clear hb h3 HC h1 h2
  cases hok : t.tree.okB with
  | false =>
    have hw := Lib.hid (show t.tree.whole = false by unfold RT.whole; rw [hok]; rfl)
    clear hok
    go_wp2_with fail
    go_ret
    exact ⟨by rw [hw.out]; rfl, HB.out⟩
  | true =>
    obtain ⟨e1, e2⟩ := H3.out hok
    by_cases c1 : p ≤ 24
    · have c1' : (p : Int) ≤ 24 := by omega
      by_cases c2 : d ≤ 8
      · have c2' : (d : Int) ≤ 8 := by omega
        have hw := Lib.hid (show t.tree.whole = true by unfold RT.whole; rw [hok, decide_eq_true (by omega)]; rfl)
        clear hok e1 e2 c1 c2
        go_wp2_with fail
        go_ret
        exact ⟨by rw [hw.out]; rfl, HB.out⟩
      · have c2' : decide ((d : Int) ≤ 8) = false := decide_eq_false (by omega)
        have hw := Lib.hid (show t.tree.whole = false by unfold RT.whole; rw [hok, decide_eq_false (by omega)]; rfl)
        clear hok e1 e2 c1 c2
        go_wp2_with fail
        go_ret
        exact ⟨by rw [hw.out]; rfl, HB.out⟩
    · have c1' : decide ((p : Int) ≤ 24) = false := decide_eq_false (by omega)
      have hw := Lib.hid (show t.tree.whole = false by unfold RT.whole; rw [hok, decide_eq_false (by omega)]; rfl)
      clear hok e1 e2 c1
      go_wp2_with fail
      go_ret
      exact ⟨by rw [hw.out]; rfl, HB.out⟩
theorem whole_ok {t : RT} (h : t.whole = true) : t.okB = true := by unfold RT.whole at h; simp only [Bool.and_eq_true] at h; exact h.1
/-- what Words hands back -/
def WPost (t : RT) (w : World) (e : Ending) (w' : World) : Prop :=
  if t.whole = true then ∃ A c, e = .returned (.tuple #[.slice A t.words.length c, .int .i64 0]) ∧ TR w' A (t.words.map bs) ∧ Below w.heap.size w w' else e = .returned (.tuple #[.slice none 0 0, .int .i64 4]) ∧ Below w.heap.size w w'
theorem WPost.no {t : RT} {w w' : World} (h : t.whole = false) (hb : Below w.heap.size w w') : WPost t w (.returned (.tuple #[.slice none 0 0, .int .i64 4])) w' := by unfold WPost; rw [if_neg (by rw [h]; decide)]; exact ⟨rfl, hb⟩
theorem WPost.yes {t : RT} {w w' : World} {A : Option Addr} {c : Nat} (h : t.whole = true) (ht : TR w' A (t.words.map bs)) (hb : Below w.heap.size w w') : WPost t w (.returned (.tuple #[.slice A t.words.length c, .int .i64 0])) w' := by unfold WPost; rw [if_pos h]; exact ⟨A, c, rfl, ht, hb⟩
set_option maxRecDepth 100000 in
set_option maxHeartbeats 4000000 in
theorem rwordsW_any (t : RV) (w : World) (hp : t.tree.parts ≤ 1000000) (ht : RTree w.heap.size w t) (hI : RichIn w) : Calls Tryz.prog 84 #[t.val] w (WPost t.tree w) := by
  have HK := Lib.hid (fun (W : World) (hW : Below w.heap.size w W) => rwhole_any t W hp ((ht.keeps hW).more hW.size) (hI.below hW))
  have HD := Lib.hid (fun (W : World) (hW : Below w.heap.size w W) (ho : t.tree.okB = true) => rwords_any t.ht t W (Nat.le_refl _) ho hp ((ht.keeps hW).more hW.size) (hI.below hW))
  unfold RWPost at HD
  unfold RV.val at HK HD ⊢
  clear ht hI hp
  obtain ⟨k0, hk0⟩ : ∃ k0, k0 = w.alloc (.cells #[.int .u8 t.kind, .string (bs t.dep.name), .int .u8 t.dep.op, .int .i64 t.dep.evr.epoch, .string (bs t.dep.evr.ver), .string (bs t.dep.evr.rel), .slice t.addr t.args.length t.cap] 29) := ⟨_, rfl⟩
  have hX : Box7 w.heap.size (.int .u8 t.kind) (.string (bs t.dep.name)) (.int .u8 t.dep.op) (.int .i64 t.dep.evr.epoch) (.string (bs t.dep.evr.ver)) (.string (bs t.dep.evr.rel)) (.slice t.addr t.args.length t.cap) k0 := by rw [hk0]; exact Box7.new _ _ _ _ _ _ _ _ _
  have HX := Lib.hid hX
  have HB0 := Lib.hid (show Below w.heap.size w k0 by rw [hk0]; exact (Below.refl _ _).alloc (Nat.le_refl _) _)
  have HK0 := Lib.hid hk0
  clear hk0 hX
  generalize t.args.length = m at *
  go_enter Tryz.func84, Tryz.ntmps84
  go_wp2_with fail
  go_at_call 123
  rw [← HK0.out]
  refine (HK.out k0 HB0.out).mono ?_
  rintro en w1 ⟨rfl, hb⟩
  have HB := Lib.hid (HB0.out.trans (hb.mono HB0.out.size))
  obtain ⟨⟨h0, h1, h2, h3, h4, h5, h6⟩, _, _⟩ := HX.out.past (hb.mono (HX.out.2.2))
  clear hb
  cases hwh : t.tree.whole with
  | false =>
    have HWH := Lib.hid hwh
    clear hwh
    go_wp2_with fail
    go_ret2
    exact WPost.no HWH.out HB.out
  | true =>
    have HO := Lib.hid (whole_ok hwh)
    have HWH := Lib.hid hwh
    clear hwh
    go_wp2_with fail
    go_at_call 124
    refine (HD.out w1 HB.out HO.out).mono ?_
    rintro en w2 ⟨A, c, rfl, hT, hb2⟩
    have HT := Lib.hid hT
    have HB2 := Lib.hid (HB.out.trans (hb2.mono HB.out.size))
    clear hT hb2
    go_wp2_with fail
    go_ret2
    exact WPost.yes HWH.out HT.out HB2.out
theorem texts_bs (l : List Bytes) : texts (l.map bs) = l := by
  unfold texts
  rw [List.map_map]
  exact (List.map_congr_left fun x _ => bs_toList x).trans (List.map_id _)
set_option maxRecDepth 100000 in
set_option maxHeartbeats 4000000 in
theorem rshow_any (t : RV) (w : World) (hp : t.tree.parts ≤ 1000000) (ht : RTree w.heap.size w t) (hI : RichIn w) : Calls Tryz.prog 43 #[t.val] w fun e w' => e = .returned (.tuple #[.string (bs (showR t.tree).1), .int .i64 (showR t.tree).2]) ∧ Below w.heap.size w w' := by
  have HK := Lib.hid (rwordsW_any t (w.alloc (.cells #[.int .u8 t.kind, .string (bs t.dep.name), .int .u8 t.dep.op, .int .i64 t.dep.evr.epoch, .string (bs t.dep.evr.ver), .string (bs t.dep.evr.rel), .slice t.addr t.args.length t.cap] 29)) hp ((ht.keeps ((Below.refl _ _).alloc (Nat.le_refl _) _)).more (by simp)) (hI.below ((Below.refl _ _).alloc (Nat.le_refl _) _)))
  have HP := Lib.hid hp
  unfold WPost at HK
  unfold RV.val at HK ⊢
  clear ht hI hp
  generalize t.args.length = m at *
  cases hwh : t.tree.whole with
  | false =>
    rw [hwh] at HK
    simp only [Bool.false_eq_true, if_false] at HK
    have hs := Lib.hid (show showR t.tree = ([], 4) by unfold showR; rw [hwh]; rfl)
    clear hwh
    go_enter Tryz.func43, Tryz.ntmps43
    go_wp2_with fail
    go_at_call 84
    refine HK.out.mono ?_
    rintro en w1 ⟨rfl, hb⟩
    have HB := Lib.hid (((Below.refl w.heap.size w).alloc (Nat.le_refl _) _).trans (hb.mono (by simp)))
    clear hb
    go_wp2_with fail
    go_ret2
    exact ⟨by rw [hs.out]; rfl, HB.out⟩
  | true =>
    rw [hwh] at HK
    simp only [if_true] at HK
    have HO := Lib.hid (whole_ok hwh)
    have HWH := Lib.hid hwh
    clear hwh
    go_enter Tryz.func43, Tryz.ntmps43
    go_wp2_with fail
    go_at_call 84
    refine HK.out.mono ?_
    rintro en w1 ⟨A, c, rfl, hT, hb⟩
    have HB := Lib.hid (((Below.refl w.heap.size w).alloc (Nat.le_refl _) _).trans (hb.mono (by simp)))
    have hwe := weigh_words HO.out HP.out
    have hln := words_many t.tree
    have hpp := HP.out
    have hRd : Rd encStr 1 w1.heap.size A t.tree.words.length (t.tree.words.map bs) w1 := by
      refine ⟨by simp, by unfold maxLen; omega, fun k hk => ?_⟩
      obtain ⟨b, o, e, hl, hc⟩ := hT k hk
      refine ⟨b, o, e, hl, fun j u hu => ?_⟩
      cases j with
      | zero => simp only [encStr, List.getElem?_cons_zero, Option.some.injEq] at hu; subst hu; simpa using hc
      | succ j => simp [encStr] at hu
    have hj := join_any (t.tree.words.map bs) A _ c w1 hRd (by rw [texts_bs]; omega)
    rw [texts_bs, List.length_map] at hj
    have HJ := Lib.hid hj
    obtain ⟨s, hs⟩ : ∃ s, s = bs (joinS none t.tree.words) := ⟨_, rfl⟩
    rw [← hs] at HJ
    have HS := Lib.hid hs
    have hsz : s.size = (joinS none t.tree.words).length := by rw [hs, bs_size]
    by_cases hl : 4096 < s.size
    · have hl' : (4096 : Int) < (s.size : Int) := by omega
      have hsh := Lib.hid (show showR t.tree = ([], 40) by unfold showR; rw [if_pos HWH.out, if_pos (by omega)])
      clear hT hb hwe hln hpp hRd hj hs hsz hl
      generalize t.tree.words.length = n at *
      go_wp2_with fail
      go_at_call 85
      refine HJ.out.mono ?_
      rintro en w2 ⟨rfl, hb2⟩
      have HB2 := Lib.hid (HB.out.trans (hb2.mono HB.out.size))
      clear hb2
      go_wp2_with fail
      go_ret2
      exact ⟨by rw [hsh.out]; rfl, HB2.out⟩
    · have hl' : ¬ (4096 : Int) < (s.size : Int) := by omega
      have hsh := Lib.hid (show showR t.tree = (joinS none t.tree.words, 0) by unfold showR; rw [if_pos HWH.out, if_neg (by omega)])
      clear hT hb hwe hln hpp hRd hj hs hsz hl
      generalize t.tree.words.length = n at *
      go_wp2_with fail
      go_at_call 85
      refine HJ.out.mono ?_
      rintro en w2 ⟨rfl, hb2⟩
      have HB2 := Lib.hid (HB.out.trans (hb2.mono HB.out.size))
      clear hb2
      go_wp2_with fail
      go_ret2
      exact ⟨by rw [hsh.out, HS.out]; rfl, HB2.out⟩
end
section
/- Rich dependencies in plain terms: the examples; trees that the call itself lays. -/




open Go.RowKit
set_option linter.unusedVariables false

def atomT (x : Bytes) : RT := .mk 1 ⟨x, 0, zeroE⟩ []
def awB : Dp := ⟨[98], 6, ⟨0, [49], []⟩⟩
def awT1 : RT := .mk 2 zeroT [atomT [97], .mk 1 awB []]
def awT2 : RT := .mk 4 zeroT [atomT [97], atomT [98], .mk 3 zeroT [atomT [99], atomT [100]]]
def awL1 : Bytes := [40, 97, 32, 97, 110, 100, 32, 98, 32, 62, 61, 32, 49, 41]
def awL2 : Bytes := [97, 32, 105, 102, 32, 98, 32, 101, 108, 115, 101, 32, 40, 99, 32, 111, 114, 32, 100, 41]
theorem aw1 : parseL awL1 = (some awT1, 0, 0) := parseL_some (parseL_iff.2 ⟨by decide +kernel, by decide +kernel, by decide +kernel⟩)
theorem aw2 : showR awT2 = (40 :: (awL2 ++ [41]), 0) := by decide +kernel
theorem aw3 : parseL [40, 40, 97, 41, 41] = (none, 3, 4) := by rfl
theorem aw4 : parseL [40, 97, 32, 97, 110, 100, 32, 98, 32, 111, 114, 32, 99, 41] = (none, 9, 4) := by rfl
theorem aw5 : parseL [97, 32, 98] = (none, 2, 4) := by rfl
theorem atom_wf (x : Bytes) (h : x.length ≤ maxLen) : Dp.wf ⟨x, 0, zeroE⟩ := ⟨h, rfl, rfl, Nat.zero_le _, Nat.zero_le _⟩
def atomR (x : Bytes) : RV := .node 1 ⟨x, 0, zeroE⟩ none 0 []
theorem atomR_rtree (B : Nat) (W : World) (x : Bytes) (h : x.length ≤ maxLen) : RTree B W (atomR x) := .mk (atom_wf x h) (Rd.nil_ (Nat.zero_le _)) (fun a ha => by simp [atomR, RV.args] at ha)
/-- a row that the call itself lays -/
theorem lit_rd {w : World} {l : List RV} {cs : Array Value} {e : TypeId} {n : Nat} (hn : l.length = n) (hcs : cs.toList = l.flatMap encR) (hm : n ≤ maxLen) : Rd encR 7 (w.heap.size + 1) (some ⟨w.heap.size, 0, none⟩) n l (w.alloc (.cells cs e)) := by
  subst hn
  have := Rd.of_block (enc := encR) (size := 7) (cap := l.length) (g := w.heap.size) (l := l) (w := w.alloc (.cells cs e)) (cs := cs) (t := e) (fz := (0, 0)) (fun _ => rfl) (World.alloc_heap_new w _) hcs (Nat.le_refl _) hm
  simpa using this
theorem lit_tree {w : World} {l : List RV} {cs : Array Value} {e : TypeId} {k : Int} {n : Nat} (hn : l.length = n) (hcs : cs.toList = l.flatMap encR) (hm : n ≤ maxLen) (hl : ∀ t ∈ l, RTree w.heap.size w t) : RTree (w.alloc (.cells cs e)).heap.size (w.alloc (.cells cs e)) (.node k zeroT (some ⟨w.heap.size, 0, none⟩) n l) := by
  refine .mk ⟨Nat.zero_le _, rfl, rfl, Nat.zero_le _, Nat.zero_le _⟩ ?_ (fun a ha => ((hl a ha).keeps ((Below.refl _ _).alloc (Nat.le_refl _) _)).more (by simp))
  have := lit_rd (w := w) (e := e) hn hcs hm
  rw [show (w.alloc (.cells cs e)).heap.size = w.heap.size + 1 by simp]
  exact this
end
section
/- Walks: an atom of a name (chandlerylaw08.atom). -/


open Go.RowKit Go.Shelf
set_option linter.unusedVariables false
set_option maxRecDepth 100000 in
set_option maxHeartbeats 1000000 in
theorem ratom_any (x : ByteArray) (w : World) : Calls Tryz.prog 44 #[.string x] w fun e w' => e = .returned (.agg #[.int .u8 1, .string x, .int .u8 0, .int .i64 0, .string ⟨#[]⟩, .string ⟨#[]⟩, .slice none 0 0]) ∧ Below w.heap.size w w' := by
  go_enter Tryz.func44, Tryz.ntmps44
  go_wp2_with fail
  exact bodyPost_ret (v := .agg #[.int .u8 1, .string x, .int .u8 0, .int .i64 0, .string ⟨#[]⟩, .string ⟨#[]⟩, .slice none 0 0]) (by simp [results, Tryz.results44, go_sem]) rfl ⟨rfl, (Below.refl _ _).alloc (Nat.le_refl _) _⟩
end
end Go.Proofs.YtnfagaccbkeikaaGreatDoor
