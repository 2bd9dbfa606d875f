/- PkCopyF -/
import Derived.Test.YteobmfpbgnmffaaGreatDoorPkgCopiesRowG29
import Derived.Test.YteobmfpbgnmffaaGreatDoorPkgCopiesRowG30
set_option linter.unusedSimpArgs false
set_option linter.unusedVariables false
open List (getElem?_toArray getElem?_cons_zero getElem?_cons_succ setIfInBounds_toArray set_cons_zero set_cons_succ take_succ_cons take_zero)
/- Walk: a package in new memory (pkg.Copy), each row of which may be written. -/


namespace Go.Proofs.YteobmfpbgnmffaaGreatDoor
open Go.RowKit Go.Shelf
set_option linter.unusedVariables false

/-- a row of rich dependencies of the call's own, and their parts -/
structure ROwnF (base : Nat) (l : List RV) (v : Value) (W : World) : Prop where
  own : Own encR 7 base 39 v l W
  tr : ∀ a ∈ l, TQF (fun b => base ≤ b ∧ b < W.heap.size ∧ v.ownBlock ≠ some b) W a
theorem ROwnF.butR {base R : Nat} {l : List RV} {v : Value} {W W' : World} (h : ROwnF base l v W) (hb : ButR R W W') (hR : R < base) : ROwnF base l v W' :=
  ⟨h.own.butR hb hR, fun a ha => (h.tr a ha).keep (fun b hq => ⟨hq.1, Nat.lt_of_lt_of_le hq.2.1 hb.size, hq.2.2⟩) fun b hq => hb.block b hq.2.1 (by omega)⟩
/-- a package all of whose rows are the call's own -/
structure PkOwnF (base : Nat) (p : Pk) (W : World) : Prop where
  prov : Own encD 5 base 37 (.slice p.provA p.prov.length p.provC) p.prov W
  obs : Own encD 5 base 37 (.slice p.obsA p.obs.length p.obsC) p.obs W
  files : Own encT1 1 base 9 (.slice p.filesA p.files.length p.filesC) p.files W
  req : ROwnF base p.req (.slice p.reqA p.req.length p.reqC) W
  con : ROwnF base p.con (.slice p.conA p.con.length p.conC) W
  rcm : ROwnF base p.rcm (.slice p.rcmA p.rcm.length p.rcmC) W
  sup : ROwnF base p.sup (.slice p.supA p.sup.length p.supC) W
  sug : ROwnF base p.sug (.slice p.sugA p.sug.length p.sugC) W
  enh : ROwnF base p.enh (.slice p.enhA p.enh.length p.enhC) W
theorem PkOwnF.butR {base R : Nat} {p : Pk} {W W' : World} (h : PkOwnF base p W) (hb : ButR R W W') (hR : R < base) : PkOwnF base p W' :=
  ⟨h.prov.butR hb hR, h.obs.butR hb hR, h.files.butR hb hR, h.req.butR hb hR, h.con.butR hb hR, h.rcm.butR hb hR, h.sup.butR hb hR, h.sug.butR hb hR, h.enh.butR hb hR⟩
/-- a row of rich dependencies of which the first ones are copied -/
structure PartRowF (w0 : World) (base : Nat) (A : Option Addr) (n cap : Nat) (orig m : List RV) (j : Nat) (W : World) : Prop where
  own : Own encR 7 base 39 (.slice A n cap) m W
  tr : treeL m = treeL orig
  done : ∀ (k : Nat) (hk : k < m.length), k < j → TQF (fun b => base ≤ b ∧ b < W.heap.size ∧ (Value.slice A n cap).ownBlock ≠ some b) W m[k]
  rest : ∀ k, j ≤ k → m[k]? = orig[k]?
  low : w0.heap.size ≤ base
  old : Below w0.heap.size w0 W
section
variable {w0 : World} {base : Nat} {A : Option Addr} {n cap : Nat} {orig m : List RV} {j : Nat} {W : World}
theorem PartRowF.start {W0 : World} (h : Own encR 7 W0.heap.size 39 (.slice A n cap) orig W) (hb : Below w0.heap.size w0 W) (hz : w0.heap.size ≤ W0.heap.size) : PartRowF w0 W0.heap.size A n cap orig orig 0 W :=
  ⟨h, rfl, fun k hk h0 => absurd h0 (Nat.not_lt_zero _), fun _ _ => rfl, hz, hb⟩
theorem PartRowF.len (h : PartRowF w0 base A n cap orig m j W) : m.length = orig.length := by rw [← treeL_len, h.tr, treeL_len]
theorem PartRowF.keep {W' : World} (h : PartRowF w0 base A n cap orig m j W) (hs : W.heap.size ≤ W'.heap.size) (hb : ∀ b, base ≤ b → b < W.heap.size → W'.heap[b]? = W.heap[b]?) (ho : Below w0.heap.size w0 W') : PartRowF w0 base A n cap orig m j W' where
  own := own_keep h.own (Nat.le_refl _) (fun g hg => hb g (World.ownsRow.lt h.own g hg).1 (World.ownsRow.lt h.own g hg).2)
  tr := h.tr
  done := fun k hk h1 => (h.done k hk h1).keep (fun b hq => ⟨hq.1, Nat.lt_of_lt_of_le hq.2.1 hs, hq.2.2⟩) fun b hq => hb b hq.1 hq.2.1
  rest := h.rest
  low := h.low
  old := ho
theorem PartRowF.call {W' : World} (h : PartRowF w0 base A n cap orig m j W) (hb : Below W.heap.size W W') : PartRowF w0 base A n cap orig m j W' :=
  h.keep hb.size (fun b _ hl => hb.block b hl) (h.old.trans (hb.mono h.old.size))
theorem PartRowF.get (h : PartRowF w0 base A n cap orig m j W) (hj : j < m.length) : m[j] = orig[j]'(by have := h.len; omega) := by
  have := h.rest j (Nat.le_refl _)
  have hl := h.len
  rw [List.getElem?_eq_getElem hj, List.getElem?_eq_getElem (by omega)] at this
  exact Option.some.inj this
/-- one more is copied and written -/
theorem PartRowF.step {g : Nat} {W2 : World} {rv : RV} (h : PartRowF w0 base (some ⟨g, 0, none⟩) n cap orig m j W) (hj : j < m.length) (ht : rv.tree = (m[j]).tree) (hT : TQF (fun b => W.heap.size ≤ b ∧ b < W2.heap.size) W2 rv) (hb : Below W.heap.size W W2) :
    PartRowF w0 base (some ⟨g, 0, none⟩) n cap orig (m.set j rv) (j + 1) (setL g (j * 7) (encR rv) W2) := by
  have hg := World.ownsRow.lt h.own g rfl
  have h2 := h.call hb
  have hblk : ∀ b, b ≠ g → (setL g (j * 7) (encR rv) W2).heap[b]? = W2.heap[b]? := fun b hne => by
    by_cases hlt : b < W2.heap.size
    · exact (setL_butR g (encR rv) (j * 7) W2).block b hlt hne
    · rw [Array.getElem?_eq_none (by rw [setL_heap]; omega), Array.getElem?_eq_none (by omega)]
  refine ⟨own_set h2.own encR_len hj rv, ?_, fun k hk h1 => ?_, fun k hk => ?_, h.low, h2.old.trans (setL_below (by have := h.low; omega) _ _ _)⟩
  · rw [treeL_set _ _ _ (by rw [List.getElem?_eq_getElem (by rw [treeL_len]; exact hj), treeL_get m j hj, ht]), h.tr]
  · have hk' : k < m.length := by simpa using hk
    by_cases hkj : k = j
    · subst hkj
      rw [List.getElem_set_self]
      refine hT.keep (fun b hq => ⟨by omega, by rw [setL_heap]; omega, fun e => by have e' : g = b := Option.some.inj e; omega⟩) fun b hq => hblk b (by omega)
    · rw [List.getElem_set_ne (fun e => hkj e.symm)]
      exact (h2.done k hk' (by omega)).keep (fun b hq => ⟨hq.1, by rw [setL_heap]; exact hq.2.1, hq.2.2⟩) fun b hq => hblk b (fun e => hq.2.2 (by rw [e]; rfl))
  · rw [List.getElem?_set_ne (by omega)]
    exact h.rest k (by omega)
theorem PartRowF.fin (h : PartRowF w0 base A n cap orig m j W) (hj : m.length ≤ j) : ROwnF base m (.slice A n cap) W :=
  ⟨h.own, fun a ha => by
    obtain ⟨k, hk, rfl⟩ := List.getElem_of_mem ha
    exact h.done k hk (by omega)⟩
end
theorem PkOwnF.more {base base' : Nat} {q : Pk} {W : World} (h : PkOwnF base q W) (hb : base' ≤ base) : PkOwnF base' q W :=
  have r : ∀ {l : List RV} {v : Value}, ROwnF base l v W → ROwnF base' l v W := fun k => ⟨Own.more k.own hb, fun a ha => (k.tr a ha).keep (fun b hq => ⟨Nat.le_trans hb hq.1, hq.2⟩) fun _ _ => rfl⟩
  ⟨Own.more h.prov hb, Own.more h.obs hb, Own.more h.files hb, r h.req, r h.con, r h.rcm, r h.sup, r h.sug, r h.enh⟩
/-- where Copy stands -/
structure CopyAtF (w : World) (cb : Nat) (p : Pk) (i : Nat) (q : Pk) (W : World) : Prop where
  box : Box15 cb q W
  alike : Alike p q
  prov : Own encD 5 (cb + 2) 37 (.slice q.provA q.prov.length q.provC) q.prov W
  obs : Own encD 5 (cb + 2) 37 (.slice q.obsA q.obs.length q.obsC) q.obs W
  files : Own encT1 1 (cb + 2) 9 (.slice q.filesA q.files.length q.filesC) q.files W
  done : ∀ j, j < 6 → j < i → ROwnF (cb + 2) (sixL q j) (.slice (q.rA j) (sixL q j).length (q.rC j)) W
  rest : ∀ j, j < 6 → i ≤ j → sixL q j = sixL p j ∧ q.rA j = p.rA j ∧ q.rC j = p.rC j
  old : Below w.heap.size w W
  base : w.heap.size ≤ cb
  room : cb + 2 ≤ W.heap.size
theorem CopyAtF.step {w W W' : World} {cb : Nat} {p q : Pk} {i : Nat} (h : CopyAtF w cb p i q W) (hi : i < 6) (hb : ButR cb W W') {A : Option Addr} {c : Nat} {m : List RV} (hx : Box15 cb (q.setR i A c m) W') (hm : treeL m = treeL (sixL q i)) (hr : ROwnF W.heap.size m (.slice A m.length c) W') :
    CopyAtF w cb p (i + 1) (q.setR i A c m) W' := by
  obtain ⟨e1, e2, e3, e4, e5, e6, e7, e8, e9⟩ := set_other q hi A c m
  have hcb := h.box.2.2
  refine ⟨hx, h.alike.setR hi A c hm, ?_, ?_, ?_, fun j hj hji => ?_, fun j hj hji => ?_, h.old.trans (hb.below h.base hcb), h.base, Nat.le_trans h.room hb.size⟩
  · rw [e1, e2, e3]; exact h.prov.butR hb (by omega)
  · rw [e4, e5, e6]; exact h.obs.butR hb (by omega)
  · rw [e7, e8, e9]; exact h.files.butR hb (by omega)
  · by_cases hne : j = i
    · subst hne
      obtain ⟨f1, f2, f3⟩ := six_set q hi A c m
      rw [f1, f2, f3]
      exact ⟨Own.more hr.own h.room, fun a ha => (hr.tr a ha).keep (fun b hq => ⟨Nat.le_trans h.room hq.1, hq.2⟩) fun _ _ => rfl⟩
    · obtain ⟨f1, f2, f3⟩ := six_oth q hi hj hne A c m
      rw [f1, f2, f3]
      exact (h.done j hj (by omega)).butR hb (by omega)
  · obtain ⟨f1, f2, f3⟩ := six_oth q hi hj (by omega) A c m
    rw [f1, f2, f3]
    exact h.rest j hj (by omega)
theorem CopyAtF.then {w W W' : World} {cb : Nat} {p q : Pk} {i : Nat} (h : CopyAtF w cb p i q W) (hb : Below W.heap.size W W') : CopyAtF w cb p i q W' := by
  have hR : ButR cb W W' := .of hb
  exact ⟨h.box.then hb, h.alike, h.prov.butR hR (by omega), h.obs.butR hR (by omega), h.files.butR hR (by omega), fun j hj hji => (h.done j hj hji).butR hR (by omega), h.rest, h.old.trans (hb.mono h.old.size), h.base, Nat.le_trans h.room hb.size⟩
theorem CopyAtF.start {w W : World} {p : Pk} {cb : Nat} (hx : Box15 cb p W) (hb : Below w.heap.size w W) (hc : w.heap.size ≤ cb) (hr : cb + 2 ≤ W.heap.size) {A2 A5 A8 : Option Addr} {k2 k5 k8 : Nat} (o2 : Own encD 5 (cb + 2) 37 (.slice A2 p.prov.length k2) p.prov W) (o5 : Own encD 5 (cb + 2) 37 (.slice A5 p.obs.length k5) p.obs W) (o8 : Own encT1 1 (cb + 2) 9 (.slice A8 p.files.length k8) p.files W) :
    CopyAtF w cb p 0 { p with provA := A2, provC := k2, obsA := A5, obsC := k5, filesA := A8, filesC := k8 } (((W.setCell ⟨cb, 6, none⟩ (.slice A2 p.prov.length k2)).setCell ⟨cb, 9, none⟩ (.slice A5 p.obs.length k5)).setCell ⟨cb, 14, none⟩ (.slice A8 p.files.length k8)) := by
  have hR := (((ButR.refl cb W).set 6 (.slice A2 p.prov.length k2)).set 9 (.slice A5 p.obs.length k5)).set 14 (.slice A8 p.files.length k8)
  refine ⟨((hx.set_prov A2 k2 p.prov).set_obs A5 k5 p.obs).set_files A8 k8 p.files, ⟨rfl, rfl, rfl, rfl, rfl, rfl, rfl, rfl, rfl, rfl, rfl, rfl, rfl, rfl, rfl⟩, o2.butR hR (by omega), o5.butR hR (by omega), o8.butR hR (by omega), fun j _ h => absurd h (Nat.not_lt_zero _), fun j hj _ => ?_, hb.trans (hR.below hc hx.2.2), hc, Nat.le_trans hr hR.size⟩
  obtain rfl | rfl | rfl | rfl | rfl | rfl : j = 0 ∨ j = 1 ∨ j = 2 ∨ j = 3 ∨ j = 4 ∨ j = 5 := by omega
  all_goals exact ⟨rfl, rfl, rfl⟩
theorem CopyAtF.row {w W : World} {cb : Nat} {p q : Pk} {i : Nat} (h : CopyAtF w cb p i q W) (hL : p.Laid w.heap.size w) (hi : i < 6) : Rd encR 7 W.heap.size (q.rA i) (q.rC i) (sixL q i) W := by
  obtain ⟨e1, e2, e3⟩ := h.rest i hi (Nat.le_refl _)
  rw [e1, e2, e3]
  exact ((laid_row hL hi).1.below h.old).more h.old.size
theorem CopyAtF.trees {w W : World} {cb : Nat} {p q : Pk} {i : Nat} (h : CopyAtF w cb p i q W) (hL : p.Laid w.heap.size w) (hi : i < 6) : ∀ t ∈ sixL q i, RTree w.heap.size w t := by
  obtain ⟨e1, e2, e3⟩ := h.rest i hi (Nat.le_refl _)
  rw [e1]
  exact (laid_row hL hi).2
theorem CopyAtF.pkOwn {w W : World} {cb : Nat} {p q : Pk} {i : Nat} (h : CopyAtF w cb p i q W) (hi : 6 ≤ i) : PkOwnF (cb + 2) q W :=
  ⟨h.prov, h.obs, h.files, h.done 0 (by omega) (by omega), h.done 1 (by omega) (by omega), h.done 2 (by omega) (by omega), h.done 3 (by omega) (by omega), h.done 4 (by omega) (by omega), h.done 5 (by omega) (by omega)⟩
def cpyQF (cb o6 g n c1 j : Nat) (x : RV) (hz : Nat) (i : Nat) (v : Value) (W : World) : Prop := match i with
  | 0 => v = .pointer (some ⟨cb, o6, none⟩)
  | 1 => v = .pointer (some ⟨cb, o6, none⟩)
  | 2 => v = .slice (some ⟨g, 0, none⟩) n c1
  | 3 => v = .int .i64 (j : Int)
  | 4 => v = .agg #[.int .u8 x.kind, .string (bs x.dep.name), .int .u8 x.dep.op, .int .i64 x.dep.evr.epoch, .string (bs x.dep.evr.ver), .string (bs x.dep.evr.rel), .slice x.addr x.args.length x.cap]
  | 5 => ∃ rv : RV, v = rv.val ∧ rv.tree = x.tree ∧ TQF (fun b => hz ≤ b ∧ b < W.heap.size) W rv
  | 6 => v = .pointer (some ⟨g, j * 7, none⟩)
  | _ => False
theorem cpyQF_mono (cb o6 g n c1 j : Nat) (x : RV) (hz : Nat) : ∀ i v w w', cpyQF cb o6 g n c1 j x hz i v w → Below w.heap.size w w' → cpyQF cb o6 g n c1 j x hz i v w' := by
  intro i v w w' h hb
  match i, h with
  | 0, h => exact h
  | 1, h => exact h
  | 2, h => exact h
  | 3, h => exact h
  | 4, h => exact h
  | 5, h => obtain ⟨rv, e, ht, hT⟩ := h; exact ⟨rv, e, ht, hT.keep (fun b hq => ⟨hq.1, Nat.lt_of_lt_of_le hq.2 hb.size⟩) fun b hq => hb.block b hq.2⟩
  | 6, h => exact h
  | (k + 7), h => exact h.elim
set_option maxRecDepth 100000 in
set_option maxHeartbeats 16000000 in
theorem pkcopyf_any (p : Pk) (w : World) (hL : p.Laid w.heap.size w) (hf : p.few) : Calls Tryz.prog 16 #[p.val] w fun e w' => ∃ q : Pk, e = .returned q.val ∧ Alike p q ∧ PkOwnF w.heap.size q w' ∧ Below w.heap.size w w' := by
  have HL := Lib.hid hL
  have HF := Lib.hid (show p.prov.length ≤ 1000000 ∧ p.obs.length ≤ 1000000 ∧ p.files.length ≤ 1000000 from ⟨hf.nprov, hf.nobs, hf.nfiles⟩)
  have HP := Lib.hid (few_parts hf)
  have CD := Lib.hid (fun A c (l : List Dp) W h hl => pkclone_dep A c l W h hl)
  have CT := Lib.hid (fun A c (l : List ByteArray) W h hl => pkclone_str A c l W h hl)
  have CR := Lib.hid (fun A c (l : List RV) W h hl => pkclone_rich A c l W h hl)
  have SH := Lib.hid (fun (x : RV) W (hp : x.tree.parts ≤ 1000000) (h : RTree W.heap.size W x) => (shcopyf_any x.ht x W (Nat.le_refl _) hp h).mono fun e w' hh => CopyPostF.tq h.wf hh)
  unfold RV.val at SH
  unfold Pk.val
  clear hL hf
  go_enter Tryz.func16, Tryz.ntmps16
  go_wp2_with fail
  obtain ⟨V, hV⟩ : ∃ V, V = (w.alloc (.cells #[.string p.name, .int .i64 p.epoch, .string p.ver, .string p.rel, .int .u8 p.arch, .string p.vendor, .slice p.provA p.prov.length p.provC, .slice p.reqA p.req.length p.reqC, .slice p.conA p.con.length p.conC, .slice p.obsA p.obs.length p.obsC, .slice p.rcmA p.rcm.length p.rcmC, .slice p.supA p.sup.length p.supC, .slice p.sugA p.sug.length p.sugC, .slice p.enhA p.enh.length p.enhC, .slice p.filesA p.files.length p.filesC] 28)).alloc (.cells #[.string ⟨#[]⟩, .int .i64 0, .string ⟨#[]⟩, .string ⟨#[]⟩, .int .u8 0, .string ⟨#[]⟩, .slice none 0 0, .slice none 0 0, .slice none 0 0, .slice none 0 0, .slice none 0 0, .slice none 0 0, .slice none 0 0, .slice none 0 0, .slice none 0 0] 28) := ⟨_, rfl⟩
  have z1 : (w.alloc (.cells #[.string p.name, .int .i64 p.epoch, .string p.ver, .string p.rel, .int .u8 p.arch, .string p.vendor, .slice p.provA p.prov.length p.provC, .slice p.reqA p.req.length p.reqC, .slice p.conA p.con.length p.conC, .slice p.obsA p.obs.length p.obsC, .slice p.rcmA p.rcm.length p.rcmC, .slice p.supA p.sup.length p.supC, .slice p.sugA p.sug.length p.sugC, .slice p.enhA p.enh.length p.enhC, .slice p.filesA p.files.length p.filesC] 28)).heap.size = w.heap.size + 1 := by simp
  have b0 : Below w.heap.size w V := by rw [hV]; exact ((Below.refl _ _).alloc (Nat.le_refl _) _).alloc (by rw [z1]; omega) _
  have XB : Box15 w.heap.size p V := by rw [hV]; exact ⟨(PkAt.new w p).calls ((Below.refl _ _).alloc (Nat.le_refl _) _), fun i hi => by simp [go_sem], by simp; omega⟩
  have ZB : Box15 (w.heap.size + 1) zPk V := by rw [hV, ← z1]; exact Box15.new (w.alloc (.cells #[.string p.name, .int .i64 p.epoch, .string p.ver, .string p.rel, .int .u8 p.arch, .string p.vendor, .slice p.provA p.prov.length p.provC, .slice p.reqA p.req.length p.reqC, .slice p.conA p.con.length p.conC, .slice p.obsA p.obs.length p.obsC, .slice p.rcmA p.rcm.length p.rcmC, .slice p.supA p.sup.length p.supC, .slice p.sugA p.sug.length p.sugC, .slice p.enhA p.enh.length p.enhC, .slice p.filesA p.files.length p.filesC] 28))
  have zV : V.heap.size = w.heap.size + 2 := by rw [hV]; simp
  rw [← hV]
  have BV := Lib.hid b0
  have XB := Lib.hid XB
  have ZB := Lib.hid ZB
  have ZV := Lib.hid zV
  clear hV z1 b0 zV
  obtain ⟨cb, hcb⟩ : ∃ cb, cb = w.heap.size := ⟨_, rfl⟩
  rw [← hcb] at XB ZB ZV ⊢
  have HC := Lib.hid hcb
  have HCB := Lib.hid (show cb + 2 ≤ V.heap.size by rw [ZV.out]; exact Nat.le_refl _)
  clear hcb
  refine wp_region_tail (PP := cpyP p cb) 9 rfl (by kernel_rfl) (by kernel_rfl) (by decide) (by decide) (cpyP_mono p cb) (fun _ => undef) (by simp [fillV, put_someT, setIfInBounds_toArray, set_cons_zero, set_cons_succ]) ?_ ?_
  · intro i o vs W hi ho he hBW K hK
    simp only [take_succ_cons, take_zero, fillV, put_someT, setIfInBounds_toArray, set_cons_zero, set_cons_succ] at hK ⊢
    have BW := Lib.hid hBW
    have XW := Lib.hid (XB.out.then hBW)
    have LW := Lib.hid ((HL.out.below (BV.out.trans (hBW.mono BV.out.size))).more (BV.out.trans (hBW.mono BV.out.size)).size)
    obtain rfl | rfl | rfl | rfl | rfl | rfl | rfl | rfl | rfl := (show i = 0 ∨ i = 1 ∨ i = 2 ∨ i = 3 ∨ i = 4 ∨ i = 5 ∨ i = 6 ∨ i = 7 ∨ i = 8 by exact (by have : i < 9 := hi; omega))
    · simp only [getElem?_toArray, getElem?_cons_zero, getElem?_cons_succ, Option.some.injEq] at ho
      subst ho
      rw [if_pos (by rfl)]
      simp only [put_someT, setIfInBounds_toArray, set_cons_zero, set_cons_succ] at hK
      have HK := Lib.hid hK
      clear hK he hi hBW
      go_simp
      exact HK.out _ _ (by first | rfl | simp [cpyP]) (Below.refl _ _)
    · simp only [getElem?_toArray, getElem?_cons_zero, getElem?_cons_succ, Option.some.injEq] at ho
      subst ho
      have e0 : vs 0 = .pointer (some ⟨cb, 6, none⟩) := (he ⟨0, .data⟩ (by simp) rfl : cpyP p cb 0 (vs 0) W)
      rw [e0] at hK ⊢
      rw [if_pos (by rfl)]
      simp only [put_someT, setIfInBounds_toArray, set_cons_zero, set_cons_succ] at hK
      have HK := Lib.hid hK
      clear hK he hi hBW
      obtain ⟨⟨hl, c0, c1, c2, c3, c4, c5, c6, c7, c8, c9, c10, c11, c12, c13, c14⟩, _, _⟩ := XW.out
      go_simp
      exact HK.out _ _ rfl (Below.refl _ _)
    · simp only [getElem?_toArray, getElem?_cons_zero, getElem?_cons_succ, Option.some.injEq] at ho
      subst ho
      have e1 : vs 1 = .slice p.provA p.prov.length p.provC := (he ⟨1, .data⟩ (by simp) rfl : cpyP p cb 1 (vs 1) W)
      rw [e1] at hK ⊢
      rw [if_pos (by rfl)]
      simp only [put_someT, setIfInBounds_toArray, set_cons_zero, set_cons_succ] at hK
      have HK := Lib.hid hK
      clear hK he hi hBW
      have LQ := LW.out.prov
      go_simp
      go_at_call 70
      refine (CD.out _ _ _ _ LQ HF.out.1).mono ?_
      rintro en w9 ⟨A9, c9, rfl, ho9, h⟩
      go_simp
      exact HK.out _ _ ⟨A9, c9, rfl, Own.more ho9 (Nat.le_trans HCB.out BW.out.size)⟩ h
    · simp only [getElem?_toArray, getElem?_cons_zero, getElem?_cons_succ, Option.some.injEq] at ho
      subst ho
      rw [if_pos (by rfl)]
      simp only [put_someT, setIfInBounds_toArray, set_cons_zero, set_cons_succ] at hK
      have HK := Lib.hid hK
      clear hK he hi hBW
      go_simp
      exact HK.out _ _ (by first | rfl | simp [cpyP]) (Below.refl _ _)
    · simp only [getElem?_toArray, getElem?_cons_zero, getElem?_cons_succ, Option.some.injEq] at ho
      subst ho
      have e3 : vs 3 = .pointer (some ⟨cb, 9, none⟩) := (he ⟨3, .data⟩ (by simp) rfl : cpyP p cb 3 (vs 3) W)
      rw [e3] at hK ⊢
      rw [if_pos (by rfl)]
      simp only [put_someT, setIfInBounds_toArray, set_cons_zero, set_cons_succ] at hK
      have HK := Lib.hid hK
      clear hK he hi hBW
      obtain ⟨⟨hl, c0, c1, c2, c3, c4, c5, c6, c7, c8, c9, c10, c11, c12, c13, c14⟩, _, _⟩ := XW.out
      go_simp
      exact HK.out _ _ rfl (Below.refl _ _)
    · simp only [getElem?_toArray, getElem?_cons_zero, getElem?_cons_succ, Option.some.injEq] at ho
      subst ho
      have e4 : vs 4 = .slice p.obsA p.obs.length p.obsC := (he ⟨4, .data⟩ (by simp) rfl : cpyP p cb 4 (vs 4) W)
      rw [e4] at hK ⊢
      rw [if_pos (by rfl)]
      simp only [put_someT, setIfInBounds_toArray, set_cons_zero, set_cons_succ] at hK
      have HK := Lib.hid hK
      clear hK he hi hBW
      have LQ := LW.out.obs
      go_simp
      go_at_call 70
      refine (CD.out _ _ _ _ LQ HF.out.2.1).mono ?_
      rintro en w9 ⟨A9, c9, rfl, ho9, h⟩
      go_simp
      exact HK.out _ _ ⟨A9, c9, rfl, Own.more ho9 (Nat.le_trans HCB.out BW.out.size)⟩ h
    · simp only [getElem?_toArray, getElem?_cons_zero, getElem?_cons_succ, Option.some.injEq] at ho
      subst ho
      rw [if_pos (by rfl)]
      simp only [put_someT, setIfInBounds_toArray, set_cons_zero, set_cons_succ] at hK
      have HK := Lib.hid hK
      clear hK he hi hBW
      go_simp
      exact HK.out _ _ (by first | rfl | simp [cpyP]) (Below.refl _ _)
    · simp only [getElem?_toArray, getElem?_cons_zero, getElem?_cons_succ, Option.some.injEq] at ho
      subst ho
      have e6 : vs 6 = .pointer (some ⟨cb, 14, none⟩) := (he ⟨6, .data⟩ (by simp) rfl : cpyP p cb 6 (vs 6) W)
      rw [e6] at hK ⊢
      rw [if_pos (by rfl)]
      simp only [put_someT, setIfInBounds_toArray, set_cons_zero, set_cons_succ] at hK
      have HK := Lib.hid hK
      clear hK he hi hBW
      obtain ⟨⟨hl, c0, c1, c2, c3, c4, c5, c6, c7, c8, c9, c10, c11, c12, c13, c14⟩, _, _⟩ := XW.out
      go_simp
      exact HK.out _ _ rfl (Below.refl _ _)
    · simp only [getElem?_toArray, getElem?_cons_zero, getElem?_cons_succ, Option.some.injEq] at ho
      subst ho
      have e7 : vs 7 = .slice p.filesA p.files.length p.filesC := (he ⟨7, .data⟩ (by simp) rfl : cpyP p cb 7 (vs 7) W)
      rw [e7] at hK ⊢
      rw [if_pos (by rfl)]
      simp only [put_someT, setIfInBounds_toArray, set_cons_zero, set_cons_succ] at hK
      have HK := Lib.hid hK
      clear hK he hi hBW
      have LQ := LW.out.files
      go_simp
      go_at_call 71
      refine (CT.out _ _ _ _ LQ HF.out.2.2).mono ?_
      rintro en w9 ⟨A9, c9, rfl, ho9, h⟩
      go_simp
      exact HK.out _ _ ⟨A9, c9, rfl, Own.more ho9 (Nat.le_trans HCB.out BW.out.size)⟩ h
  · intro vs W hall hBW
    obtain ⟨A2, k2, e2, o2⟩ : ∃ A c, vs 2 = .slice A p.prov.length c ∧ Own encD 5 (cb + 2) 37 (.slice A p.prov.length c) p.prov W
    · exact hall 2 (by decide)
    obtain ⟨A5, k5, e5, o5⟩ : ∃ A c, vs 5 = .slice A p.obs.length c ∧ Own encD 5 (cb + 2) 37 (.slice A p.obs.length c) p.obs W
    · exact hall 5 (by decide)
    obtain ⟨A8, k8, e8, o8⟩ : ∃ A c, vs 8 = .slice A p.files.length c ∧ Own encT1 1 (cb + 2) 9 (.slice A p.files.length c) p.files W
    · exact hall 8 (by decide)
    simp only [take_succ_cons, take_zero, List.drop_succ_cons, List.drop_zero, fillV, put_someT, setIfInBounds_toArray, set_cons_zero, set_cons_succ]
    rw [e2, e5, e8]
    have XW := Lib.hid (XB.out.then hBW)
    have ZW := Lib.hid (ZB.out.then hBW)
    have BW := Lib.hid (BV.out.trans (hBW.mono BV.out.size))
    have HW := Lib.hid (Nat.le_trans HCB.out hBW.size)
    have ZW2 := Lib.hid (show cb + 2 ≤ W.heap.size by have := ZV.out; have := hBW.size; omega)
    generalize vs 0 = u0
    generalize vs 1 = u1
    generalize vs 3 = u3
    generalize vs 4 = u4
    generalize vs 6 = u6
    generalize vs 7 = u7
    obtain ⟨⟨hl, c0, c1, c2, c3, c4, c5, c6, c7, c8, c9, c10, c11, c12, c13, c14⟩, fz, _⟩ := XW.out
    have f6 := fz 6 (by omega)
    have f9 := fz 9 (by omega)
    have f14 := fz 14 (by omega)
    have O2 := Lib.hid o2
    have O5 := Lib.hid o5
    have O8 := Lib.hid o8
    clear hall hBW e2 e5 e8 o2 o5 o8 fz BV XB ZB ZV HCB
    go_wp2_with fail
    have S0 := CopyAtF.start XW.out BW.out (Nat.le_of_eq HC.out.symm) ZW2.out (A2 := A2) (k2 := k2) (A5 := A5) (k5 := k5) (A8 := A8) (k8 := k8) O2.out O5.out O8.out
    have T0 := (((ButR.refl cb W).set 6 (.slice A2 p.prov.length k2)).set 9 (.slice A5 p.obs.length k5)).set 14 (.slice A8 p.files.length k8)
    have Z0 := ZW.out.butR T0 (by omega)
    clear XW ZW BW HW T0 O2 O5 O8 hl f6 f9 f14 c0 c1 c2 c3 c4 c5 c6 c7 c8 c9 c10 c11 c12 c13 c14
    obtain ⟨W3, hW3⟩ : ∃ W3, W3 = ((W.setCell ⟨cb, 6, none⟩ (.slice A2 p.prov.length k2)).setCell ⟨cb, 9, none⟩ (.slice A5 p.obs.length k5)).setCell ⟨cb, 14, none⟩ (.slice A8 p.files.length k8) := ⟨_, rfl⟩
    have hzw : W3.heap.size = W.heap.size := by rw [hW3]; simp [World.setCell]
    rw [← hW3] at S0 Z0 ⊢
    clear hW3
    have hz3 : W3.heap.size ≠ cb := by have := S0.box.2.2; omega
    have PT0 : PtrAt W3.heap.size cb offR 6 (W3.alloc (.cells #[.pointer (some ⟨cb, 7, none⟩), .pointer (some ⟨cb, 8, none⟩), .pointer (some ⟨cb, 10, none⟩), .pointer (some ⟨cb, 11, none⟩), .pointer (some ⟨cb, 12, none⟩), .pointer (some ⟨cb, 13, none⟩)] 117)) := by
      refine ⟨by simp, hz3, fun i hi => ?_⟩
      obtain rfl | rfl | rfl | rfl | rfl | rfl : i = 0 ∨ i = 1 ∨ i = 2 ∨ i = 3 ∨ i = 4 ∨ i = 5 := by omega
      all_goals exact (World.cell?_alloc_at _ _ _ _ (by simp)).trans rfl
    have S0 := Lib.hid (S0.then ((Below.refl _ _).alloc (Nat.le_refl _) (.cells #[.pointer (some ⟨cb, 7, none⟩), .pointer (some ⟨cb, 8, none⟩), .pointer (some ⟨cb, 10, none⟩), .pointer (some ⟨cb, 11, none⟩), .pointer (some ⟨cb, 12, none⟩), .pointer (some ⟨cb, 13, none⟩)] 117)))
    have Z0 := Lib.hid (Z0.then ((Below.refl _ _).alloc (Nat.le_refl _) (.cells #[.pointer (some ⟨cb, 7, none⟩), .pointer (some ⟨cb, 8, none⟩), .pointer (some ⟨cb, 10, none⟩), .pointer (some ⟨cb, 11, none⟩), .pointer (some ⟨cb, 12, none⟩), .pointer (some ⟨cb, 13, none⟩)] 117)))
    rw [hzw] at PT0
    have PT0 := Lib.hid PT0
    clear hz3 ZW2 hzw
    obtain ⟨q0, hq0⟩ : ∃ q0 : Pk, q0 = { p with provA := A2, provC := k2, obsA := A5, obsC := k5, filesA := A8, filesC := k8 } := ⟨_, rfl⟩
    rw [← hq0] at S0
    clear hq0
    generalize W3.alloc (.cells #[.pointer (some ⟨cb, 7, none⟩), .pointer (some ⟨cb, 8, none⟩), .pointer (some ⟨cb, 10, none⟩), .pointer (some ⟨cb, 11, none⟩), .pointer (some ⟨cb, 12, none⟩), .pointer (some ⟨cb, 13, none⟩)] 117) = W4 at *
    generalize W.heap.size = gp at *
    go_loopw [27] (fun iv wr => ∃ (i : Nat) (q : Pk), i ≤ 6 ∧ iv = .int .i64 (i : Int) ∧ CopyAtF w cb p i q wr ∧ PtrAt gp cb offR 6 wr ∧ Box15 (cb + 1) zPk wr) (fun iv _ => 6 - (intOf iv).toNat)
    case atStart => exact ⟨0, q0, by omega, rfl, S0.out, PT0.out, Z0.out⟩
    case round =>
      obtain ⟨i, q, hi, rfl, hS, hP, hZ⟩ := hrel
      rename World => wr
      have S := Lib.hid hS
      have PT := Lib.hid hP
      have ZZ := Lib.hid hZ
      clear hS hP hZ S0 PT0 Z0
      by_cases hlt : i < 6
      · have i0 : (0 : Int) ≤ (i : Int) := by omega
        have i1 : (i : Int) < 6 := by omega
        have pc := PT.out.2.2 i hlt
        have bc := box_row S.out.box hlt
        have fz := S.out.box.2.1 (offR i) (offR_lt i)
        have hcb := S.out.box.2.2
        have RW := Lib.hid (S.out.row HL.out hlt)
        have RT := Lib.hid (S.out.trees HL.out hlt)
        have PQ := Lib.hid (show partsL (treeL (sixL q i)) ≤ 900000 by rw [(S.out.rest i hlt (Nat.le_refl _)).1]; exact HP.out i hlt)
        have STEP := Lib.hid (fun A c (m : List RV) (W' : World) hb hx hm hr => CopyAtF.step S.out hlt (W' := W') hb (A := A) (c := c) (m := m) hx hm hr)
        have BS := Lib.hid (fun A c (m : List RV) (W2 : World) (hb : Below wr.heap.size wr W2) => (S.out.box.then hb).setR A c m hlt)
        have BL := Lib.hid (fun A c (m m' : List RV) (W2 : World) (h : Box15 cb (q.setR i A c m) W2) (e : m'.length = m.length) => Box15.len h hlt e)
        have BC := Lib.hid (fun A c (m : List RV) (W2 : World) (h : Box15 cb (q.setR i A c m) W2) => boxR_at h hlt)
        have OLD := Lib.hid S.out.old
        have HLL := Lib.hid (show (sixL q i).length ≤ 900000 by have h1 := partsL_len (treeL (sixL q i)); rw [treeL_len] at h1; have := PQ.out; omega)
        generalize offR i = o6 at *
        generalize q.rA i = A6 at *
        generalize q.rC i = c6 at *
        generalize sixL q i = l6 at *
        go_wp2_with fail
        go_at_call 72
        refine (CR.out A6 c6 l6 wr RW.out (by have := HLL.out; omega)).mono ?_
        rintro en w1 ⟨A1, c1, rfl, hO, hB⟩
        have bc1 := (hB.cell (p := ⟨cb, o6, none⟩) hcb).trans bc
        have fz1 := (hB.frozen (p := ⟨cb, o6, none⟩) hcb).trans fz
        have HO := Lib.hid hO
        have HB := Lib.hid hB
        clear hO hB pc bc fz
        have BX0 := Lib.hid (BS.out A1 c1 l6 w1 HB.out)
        have BR0 := Lib.hid ((ButR.of (R := cb) HB.out).set o6 (.slice A1 l6.length c1))
        have PR0 := Lib.hid ((PartRowF.start (w0 := w) HO.out (OLD.out.trans (HB.out.mono OLD.out.size)) OLD.out.size).keep (W' := w1.setCell ⟨cb, o6, none⟩ (.slice A1 l6.length c1)) (by simp [World.setCell]) (fun b h1 _ => Below.heap_setCell _ _ _ _ (show b ≠ cb by omega)) ((OLD.out.trans (HB.out.mono OLD.out.size)).setCell (p := ⟨cb, o6, none⟩) (Nat.le_of_eq HC.out.symm) _))
        obtain ⟨n, hn⟩ : ∃ n, n = l6.length := ⟨_, rfl⟩
        have HN := Lib.hid hn
        rw [← hn] at bc1 PR0 BX0 BR0 ⊢
        clear hn RW
        go_wp2_with fail
        generalize w1.setCell ⟨cb, o6, none⟩ (.slice A1 n c1) = W5 at *
        clear bc1 fz1 HO HB
        go_loopw [41] (fun jv wx => ∃ (j : Nat) (m : List RV), j ≤ n ∧ jv = .int .i64 (j : Int) ∧ PartRowF w wr.heap.size A1 n c1 l6 m j wx ∧ ButR cb wr wx ∧ Box15 cb (q.setR i A1 c1 m) wx) (fun jv _ => n - (intOf jv).toNat)
        case atStart => exact ⟨0, l6, Nat.zero_le _, rfl, PR0.out, BR0.out, BX0.out⟩
        case round =>
          obtain ⟨j, m, hj, rfl, hPR, hBR, hBX⟩ := hrel
          rename World => wx
          have PR := Lib.hid hPR
          have BR := Lib.hid hBR
          have BX := Lib.hid hBX
          have hml : m.length = n := by rw [HN.out]; exact hPR.len
          clear hPR hBR hBX PR0 BR0 BX0
          have hnb : n ≤ 900000 := by have := HLL.out; have := HN.out; omega
          by_cases hlt2 : j < n
          · have hjm : j < m.length := by omega
            have hjl : j < l6.length := by have := HN.out; omega
            obtain ⟨g, hA, hgb, hgl, hgn, hgf⟩ := own_some PR.out.own (by omega)
            subst hA
            have hx := PR.out.get hjm
            have TX := RT.out l6[j] (List.getElem_mem hjl)
            have hxp : (l6[j]).tree.parts ≤ 1000000 := by
              have h1 := partsL_get (l := treeL l6) (show j < (treeL l6).length by rw [treeL_len]; exact hjl)
              rw [treeL_get l6 j hjl] at h1
              have := PQ.out
              omega
            have SC := Lib.hid (fun W (hb : Below wx.heap.size wx W) => SH.out l6[j] W hxp ((TX.keeps (PR.out.old.trans (hb.mono PR.out.old.size))).more (Nat.le_trans PR.out.old.size hb.size)))
            obtain ⟨e0, e1, e2, e3, e4, e5, e6⟩ := own7_at PR.out.own hjm
            rw [hx] at e0 e1 e2 e3 e4 e5 e6
            have HX := Lib.hid (show (m[j]).tree = (l6[j]).tree by rw [hx])
            have CBG := Lib.hid (show cb ≠ g by omega)
            have HGB := Lib.hid hgb
            have HGF := Lib.hid hgf
            have HJM := Lib.hid hjm
            have HML := Lib.hid hml
            obtain ⟨bc, fz⟩ := BC.out _ _ _ _ BX.out
            rw [hml] at bc
            clear TX hxp hx hgn hgf hgb hml
            generalize l6[j] = x at *
            clear hjl
            have j0 : (0 : Int) ≤ (j : Int) := by omega
            have j1 : (j : Int) < (n : Int) := by omega
            go_wp2_with fail
            have BV := Lib.hid ((Below.refl wx.heap.size wx).alloc (Nat.le_refl _) (.cells #[.int .u8 x.kind, .string (bs x.dep.name), .int .u8 x.dep.op, .int .i64 x.dep.evr.epoch, .string (bs x.dep.evr.ver), .string (bs x.dep.evr.rel), .slice x.addr x.args.length x.cap] 39))
            have XB := Lib.hid (Box7.new wx (.int .u8 x.kind) (.string (bs x.dep.name)) (.int .u8 x.dep.op) (.int .i64 x.dep.evr.epoch) (.string (bs x.dep.evr.ver)) (.string (bs x.dep.evr.rel)) (.slice x.addr x.args.length x.cap) 39)
            have bcv := (BV.out.cell (p := ⟨cb, o6, none⟩) BX.out.2.2).trans bc
            have fzv := (BV.out.frozen (p := ⟨cb, o6, none⟩) BX.out.2.2).trans fz
            have CBV := Lib.hid (Nat.lt_of_lt_of_le BX.out.2.2 BV.out.size)
            have PRV := Lib.hid (PR.out.call BV.out)
            have BRV := Lib.hid (BR.out.then BV.out)
            have BXV := Lib.hid (BX.out.then BV.out)
            clear e0 e1 e2 e3 e4 e5 e6 bc fz hgl
            generalize wx.alloc (.cells #[.int .u8 x.kind, .string (bs x.dep.name), .int .u8 x.dep.op, .int .i64 x.dep.evr.epoch, .string (bs x.dep.evr.ver), .string (bs x.dep.evr.rel), .slice x.addr x.args.length x.cap] 39) = V at *
            have BCV := Lib.hid (And.intro bcv fzv)
            clear bcv fzv PR BR BX
            obtain ⟨hz, hhz⟩ : ∃ hz, hz = V.heap.size := ⟨_, rfl⟩
            have HZ := Lib.hid hhz
            clear hhz
            refine wp_region_tail (PP := cpyQF cb o6 g n c1 j x hz) 7 rfl (by kernel_rfl) (by kernel_rfl) (by decide) (by decide) (cpyQF_mono cb o6 g n c1 j x hz) (fun i => match i with | 0 => u46 | 1 => u47 | 2 => u48 | 3 => u49 | 4 => u50 | 5 => u51 | _ => u52) (by simp [fillV, put_someT, setIfInBounds_toArray, set_cons_zero, set_cons_succ]) ?_ ?_
            · intro i o vs W hi ho he hBW K hK
              simp only [take_succ_cons, take_zero, fillV, put_someT, setIfInBounds_toArray, set_cons_zero, set_cons_succ] at hK ⊢
              have BZW := Lib.hid (BV.out.trans (hBW.mono BV.out.size))
              have HZL := Lib.hid (show hz ≤ W.heap.size by rw [HZ.out]; exact hBW.size)
              have XBW := Lib.hid (XB.out.past (hBW.mono (XB.out.2.2)))
              have BCW := Lib.hid (show W.cell? ⟨cb, o6, none⟩ = _ ∧ W.frozen? ⟨cb, o6, none⟩ = _ from ⟨(hBW.cell (p := ⟨cb, o6, none⟩) CBV.out).trans BCV.out.1, (hBW.frozen (p := ⟨cb, o6, none⟩) CBV.out).trans BCV.out.2⟩)
              obtain rfl | rfl | rfl | rfl | rfl | rfl | rfl := (show i = 0 ∨ i = 1 ∨ i = 2 ∨ i = 3 ∨ i = 4 ∨ i = 5 ∨ i = 6 by exact (by have : i < 7 := hi; omega))
              · simp only [getElem?_toArray, getElem?_cons_zero, getElem?_cons_succ, Option.some.injEq] at ho
                subst ho
                rw [if_pos (by rfl)]
                simp only [put_someT, setIfInBounds_toArray, set_cons_zero, set_cons_succ] at hK
                have HK := Lib.hid hK
                clear hK he hi hBW
                go_simp
                exact HK.out _ _ (by first | rfl | simp [cpyQF]) (Below.refl _ _)
              · simp only [getElem?_toArray, getElem?_cons_zero, getElem?_cons_succ, Option.some.injEq] at ho
                subst ho
                have e0 : vs 0 = .pointer (some ⟨cb, o6, none⟩) := (he ⟨0, .data⟩ (by simp) rfl : cpyQF cb o6 g n c1 j x hz 0 (vs 0) W)
                rw [e0] at hK ⊢
                rw [if_pos (by rfl)]
                simp only [put_someT, setIfInBounds_toArray, set_cons_zero, set_cons_succ] at hK
                have HK := Lib.hid hK
                clear hK he hi hBW
                go_simp
                exact HK.out _ _ (by first | rfl | simp [cpyQF]) (Below.refl _ _)
              · simp only [getElem?_toArray, getElem?_cons_zero, getElem?_cons_succ, Option.some.injEq] at ho
                subst ho
                have e1 : vs 1 = .pointer (some ⟨cb, o6, none⟩) := (he ⟨1, .data⟩ (by simp) rfl : cpyQF cb o6 g n c1 j x hz 1 (vs 1) W)
                rw [e1] at hK ⊢
                rw [if_pos (by rfl)]
                simp only [put_someT, setIfInBounds_toArray, set_cons_zero, set_cons_succ] at hK
                have HK := Lib.hid hK
                clear hK he hi hBW
                obtain ⟨bc, fz⟩ := BCW.out
                go_simp
                exact HK.out _ _ rfl (Below.refl _ _)
              · simp only [getElem?_toArray, getElem?_cons_zero, getElem?_cons_succ, Option.some.injEq] at ho
                subst ho
                rw [if_pos (by rfl)]
                simp only [put_someT, setIfInBounds_toArray, set_cons_zero, set_cons_succ] at hK
                have HK := Lib.hid hK
                clear hK he hi hBW
                go_simp
                exact HK.out _ _ (by first | rfl | simp [cpyQF]) (Below.refl _ _)
              · simp only [getElem?_toArray, getElem?_cons_zero, getElem?_cons_succ, Option.some.injEq] at ho
                subst ho
                rw [if_pos (by rfl)]
                simp only [put_someT, setIfInBounds_toArray, set_cons_zero, set_cons_succ] at hK
                have HK := Lib.hid hK
                clear hK he hi hBW
                obtain ⟨⟨x0, x1, x2, x3, x4, x5, x6⟩, _, _⟩ := XBW.out
                go_simp
                exact HK.out _ _ rfl (Below.refl _ _)
              · simp only [getElem?_toArray, getElem?_cons_zero, getElem?_cons_succ, Option.some.injEq] at ho
                subst ho
                have e4 : vs 4 = .agg #[.int .u8 x.kind, .string (bs x.dep.name), .int .u8 x.dep.op, .int .i64 x.dep.evr.epoch, .string (bs x.dep.evr.ver), .string (bs x.dep.evr.rel), .slice x.addr x.args.length x.cap] := (he ⟨4, .data⟩ (by simp) rfl : cpyQF cb o6 g n c1 j x hz 4 (vs 4) W)
                rw [e4] at hK ⊢
                rw [if_pos (by rfl)]
                simp only [put_someT, setIfInBounds_toArray, set_cons_zero, set_cons_succ] at hK
                have HK := Lib.hid hK
                clear hK he hi hBW
                have SQ := SC.out W BZW.out
                go_simp
                go_at_call 69
                refine SQ.mono ?_
                rintro en w9 ⟨rv, rfl, hrt, hT, h⟩
                go_simp
                exact HK.out _ _ ⟨rv, rfl, hrt, hT.keep (fun b hq => ⟨Nat.le_trans HZL.out hq.1, hq.2⟩) (fun _ _ => rfl)⟩ h
              · simp only [getElem?_toArray, getElem?_cons_zero, getElem?_cons_succ, Option.some.injEq] at ho
                subst ho
                have e2 : vs 2 = .slice (some ⟨g, 0, none⟩) n c1 := (he ⟨2, .data⟩ (by simp) rfl : cpyQF cb o6 g n c1 j x hz 2 (vs 2) W)
                rw [e2] at hK ⊢
                have e3 : vs 3 = .int .i64 (j : Int) := (he ⟨3, .data⟩ (by simp) rfl : cpyQF cb o6 g n c1 j x hz 3 (vs 3) W)
                rw [e3] at hK ⊢
                rw [if_pos (by rfl)]
                simp only [put_someT, setIfInBounds_toArray, set_cons_zero, set_cons_succ] at hK
                have HK := Lib.hid hK
                clear hK he hi hBW
                go_simp
                exact HK.out _ _ (by simp [cpyQF]) (Below.refl _ _)
            · intro vs W hall hBW
              have e6 : vs 6 = .pointer (some ⟨g, j * 7, none⟩) := (hall 6 (by decide) : cpyQF cb o6 g n c1 j x hz 6 (vs 6) W)
              obtain ⟨rv, e5, hrt, hT⟩ : ∃ rv : RV, vs 5 = rv.val ∧ rv.tree = x.tree ∧ TQF (fun b => hz ≤ b ∧ b < W.heap.size) W rv := hall 5 (by decide)
              simp only [take_succ_cons, take_zero, List.drop_succ_cons, List.drop_zero, fillV, put_someT, setIfInBounds_toArray, set_cons_zero, set_cons_succ]
              rw [e5, e6]
              generalize vs 0 = u0
              generalize vs 1 = u1
              generalize vs 2 = u2
              generalize vs 3 = u3
              generalize vs 4 = u4
              have PRW := PRV.out.call hBW
              obtain ⟨d0, d1, d2, d3, d4, d5, d6⟩ := own7_at PRW.own HJM.out
              have ff := own_frozen PRW.own
              have f0 := ff (j * 7)
              have f1 := ff (j * 7 + 1)
              have f2 := ff (j * 7 + 2)
              have f3 := ff (j * 7 + 3)
              have f4 := ff (j * 7 + 4)
              have f5 := ff (j * 7 + 5)
              have f6 := ff (j * 7 + 6)
              rw [HZ.out] at hT
              have PRN := Lib.hid (PRV.out.step HJM.out (hrt.trans HX.out.symm) hT hBW)
              have BRN := Lib.hid (ButR.setL_new HGB.out (encR rv) (j * 7) _ (BRV.out.then hBW))
              have BXN := Lib.hid (BL.out _ _ m (m.set j rv) _ ((BXV.out.then hBW).butR (setL_butR g (encR rv) (j * 7) W) CBG.out) (by simp))
              clear hall hBW e5 e6 PRW ff hT hrt BV XB BCV PRV BRV BXV CBV SC
              unfold RV.val
              unfold setL encR setL setL setL setL setL setL setL at PRN BRN BXN
              go_wp2_with fail
              go_roundw
              case rel => exact ⟨j + 1, m.set j rv, by omega, by go_num, PRN.out, BRN.out, BXN.out⟩
              case measure => simp [intOf]; omega
          · obtain rfl : j = n := by omega
            have j1 : ¬ (j : Int) < (j : Int) := by omega
            have ST := Lib.hid (STEP.out A1 c1 m wx BR.out BX.out PR.out.tr (hml ▸ PR.out.fin (Nat.le_of_eq hml)))
            have PT3 := Lib.hid (PT.out.butR BR.out PT.out.2.1)
            have Z3 := Lib.hid (ZZ.out.butR BR.out (by omega))
            clear PR BR BX STEP BS BL BC hml
            go_wp2_with fail
            go_roundw
            case rel => exact ⟨i + 1, q.setR i A1 c1 m, by omega, by go_num, ST.out, PT3.out, Z3.out⟩
            case measure => simp [intOf]; omega
      · obtain rfl : i = 6 := by omega
        have i1 : ¬ (6 : Int) < 6 := by omega
        obtain ⟨⟨hl, c0, c1, c2, c3, c4, c5, c6, c7, c8, c9, c10, c11, c12, c13, c14⟩, _, _⟩ := S.out.box
        obtain ⟨⟨zl, z0, z1, z2, z3, z4, z5, z6, z7, z8, z9, z10, z11, z12, z13, z14⟩, fz, _⟩ := ZZ.out
        have f0 := fz 0 (by omega)
        have f1 := fz 1 (by omega)
        have f2 := fz 2 (by omega)
        have f3 := fz 3 (by omega)
        have f4 := fz 4 (by omega)
        have f5 := fz 5 (by omega)
        have f6 := fz 6 (by omega)
        have f7 := fz 7 (by omega)
        have f8 := fz 8 (by omega)
        have f9 := fz 9 (by omega)
        have f10 := fz 10 (by omega)
        have f11 := fz 11 (by omega)
        have f12 := fz 12 (by omega)
        have f13 := fz 13 (by omega)
        have f14 := fz 14 (by omega)
        have R1 := Lib.hid (ZZ.out.set q)
        have R2 := Lib.hid (setL_butR (cb + 1) q.cells 0 wr)
        have R3 := Lib.hid (setL_below (B := w.heap.size) (R := cb + 1) (by have := HC.out; omega) q.cells 0 wr)
        have RA := Lib.hid S.out.alike
        have RO := Lib.hid (S.out.pkOwn (Nat.le_refl _))
        have RB := Lib.hid S.out.old
        clear fz PT hl zl
        unfold zPk at z0 z1 z2 z3 z4 z5 z6 z7 z8 z9 z10 z11 z12 z13 z14
        go_wp2_with fail
        obtain ⟨Y, hY⟩ : ∃ Y, Y = setL (cb + 1) 0 q.cells wr := ⟨_, rfl⟩
        have hY2 := hY
        simp only [setL, Pk.cells, Nat.zero_add, Nat.reduceAdd] at hY2
        rw [← hY2]
        rw [← hY] at R1 R2 R3
        clear hY hY2 c0 c1 c2 c3 c4 c5 c6 c7 c8 c9 c10 c11 c12 c13 c14 z0 z1 z2 z3 z4 z5 z6 z7 z8 z9 z10 z11 z12 z13 z14
        obtain ⟨⟨_, c0, c1, c2, c3, c4, c5, c6, c7, c8, c9, c10, c11, c12, c13, c14⟩, _, _⟩ := R1.out
        refine bodyPost_ret (v := q.val) (by simp [Pk.val, results, Tryz.results16, go_sem, c0, c1, c2, c3, c4, c5, c6, c7, c8, c9, c10, c11, c12, c13, c14]; try rfl) rfl ?_
        exact ⟨q, rfl, RA.out, (RO.out.butR R2.out (Nat.lt_succ_self _)).more (by have := HC.out; omega), RB.out.trans R3.out⟩
end Go.Proofs.YteobmfpbgnmffaaGreatDoor
