/- PkMay -/
import Derived.Test.YtcpjignlhlcnpaaDoorPkgNamesRowG17
import Derived.Test.YtcpjignlhlcnpaaDoorPkgNamesRowG10
set_option linter.unusedSimpArgs false
set_option linter.unusedVariables false
/- Walks: a package without rich dependencies that may be (pkg.May). -/


namespace Go.Proofs.YtcpjignlhlcnpaaDoor
open Go.RowKit Go.Shelf
set_option linter.unusedVariables false
attribute [local go_sem] Oper.semAt_some
attribute [local go_sem ↓ high] asked_wide

/-- it may be, and has no rich dependency, and no two files -/
structure Pk.ok1 (p : Pk) : Prop where
  nm : nameB p.name.toList = true
  nf : fileB p.name.toList = false
  ev : mayB p.evr false = true
  ar : p.arch = 1
  vn : p.vendor.size ≤ 64
  pv : (decide (p.prov.length ≤ 32) && p.prov.all dmayB) = true
  ob : (decide (p.obs.length ≤ 32) && p.obs.all dmayB) = true
  fi : (decide (p.files.length ≤ 32) && p.files.all fileS) = true
  f1 : p.files.length = 1
  em : ∀ x ∈ LS p, x.l.length = 0
theorem Boxed.calls {W W' : World} {B : Nat} {t : TypeId} {v : Value} (h : Boxed W B t v) (hb : Below W.heap.size W W') : Boxed W' B t v := (hb.block B h.lt).trans h
theorem evmay_pk (p : Pk) (w : World) (hw : p.evr.wf) : Calls Tryd.prog 12 #[.agg #[.int .i64 p.epoch, .string p.ver, .string p.rel], .bool false] w fun r w' => r = .returned (.bool (mayB p.evr false)) ∧ Below w.heap.size w w' := by
  have h := evMay_any p.evr false w hw
  unfold Evr.val Pk.evr at h
  dsimp only at h
  rw [bs_of, bs_of] at h
  unfold Pk.evr
  exact h
theorem kp_t {Bs : Nat} {A B C : World} (h : KP Bs A B) (k : KP Bs B C) : KP Bs A C := ⟨fun i => (k.1 i).trans (h.1 i), Nat.le_trans h.2 k.2⟩
theorem kp_b {Bs : Nat} {w : World} (hn : Bs < w.heap.size) (W : World) (l : Nat) (o o' : Obj) (hl : w.heap.size ≤ l) (_ : W.heap[l]? = some o) (_ : o.isCells = false) (_ : o.isWalk = false) : KP Bs W (W.putObj l o') :=
  ⟨fun i => World.cell?_of_block (World.putObj_heap_other (by simp; omega)), (grownBy_putObj' W l o').size⟩
theorem kp_calls {Bs : Nat} {W W' : World} (hn : Bs < W.heap.size) (h : Below W.heap.size W W') : KP Bs W W' := ⟨fun i => h.cell (p := ⟨Bs, i, none⟩) hn, h.size⟩
theorem kp_at {Bs : Nat} {W W' : World} {p : Pk} (h : PkAt W Bs p) (k : KP Bs W W') : PkAt W' Bs p := by
  obtain ⟨hl, c0, c1, c2, c3, c4, c5, c6, c7, c8, c9, c10, c11, c12, c13, c14⟩ := h
  exact ⟨Nat.lt_of_lt_of_le hl k.2, (k.1 0).trans c0, (k.1 1).trans c1, (k.1 2).trans c2, (k.1 3).trans c3, (k.1 4).trans c4, (k.1 5).trans c5, (k.1 6).trans c6, (k.1 7).trans c7, (k.1 8).trans c8, (k.1 9).trans c9, (k.1 10).trans c10, (k.1 11).trans c11, (k.1 12).trans c12, (k.1 13).trans c13, (k.1 14).trans c14⟩
theorem lists_stops (n : Nat) (Bs : Nat) (p : Pk) (w : World) (hB : PkAt w Bs p) : SeqStopsK Fence.wide n Tryd.prog 36 #[.pointer (some ⟨Bs, 0, none⟩)] (lxArgs (p := p)) (KP Bs) (fun ys => ys = LSA p) (fun pre => pre <+: LSA p) 6 w :=
  fun l J Jx W hW hJ _ hY h0 => lists1_in n l Bs p J Jx hY W (kp_at hB (kp_calls hB.1 hW)) h0
/-- what holds between two rounds of the loop in pkg.May -/
def MI (w : World) (p : Pk) (pre : List (LXof p)) (W : World) : Prop := Below w.heap.size w W
theorem mi_lt {w W : World} {o : Obj} (h : Below (w.alloc o).heap.size (w.alloc o) W) : w.heap.size < W.heap.size := Nat.lt_of_lt_of_le (by simp) h.size
theorem kp_alloc {Bs : Nat} {W : World} {o : Obj} (h : Bs < W.heap.size) : KP Bs W (W.alloc o) := kp_calls h ((Below.refl _ _).alloc (Nat.le_refl _) _)
def MX (p : Pk) (_ : Code) (_ : List (LXof p)) (_ : World) : Prop := False
theorem MX_own (p : Pk) (c : Code) {B : Nat} : OwnFrom B (MX p c) := fun _ _ _ _ h _ _ => h
theorem MI_own (w : World) (p : Pk) : OwnFrom w.heap.size (MI w p) := ownFrom_below (Nat.le_refl _) (Nat.le_refl _)
def WBox (x : Int) (b : Nat) (W : World) : Prop := Boxed W b 5 (.int .u8 x)
theorem wbox_own (B : Nat) (x : Int) (a' : Act) (f : Nat → Act) : OwnFrom B (fun (_ : Unit) W => ∃ b, a' = f b ∧ WBox x b W) := by
  rintro _ X Y row ⟨b, e, hb⟩ hg hrow
  refine ⟨b, e, (hg.block b (Array.getElem?_eq_some_iff.1 hb).1 (fun e2 => ?_)).trans hb⟩
  obtain ⟨_, o, ho, hc⟩ := hrow b e2.symm
  rw [show X.heap[b]? = _ from hb] at ho
  cases ho
  cases hc
set_option maxRecDepth 100000 in
set_option maxHeartbeats 16000000 in
theorem pkmay_in (p : Pk) (w : World) (hI : PkIn w) (hL : p.Laid w.heap.size w) (ok : p.ok1) : CallsIn Fence.wide 8 Tryd.prog 6 #[p.val] w fun e w' => e = .returned (.bool true) ∧ Below w.heap.size w w' := by
  have n0 := hL.n0
  have hw : p.evr.wf := ⟨hL.ep, by show p.ver.toList.length ≤ maxLen; rw [size_toList]; exact hL.n1, by show p.rel.toList.length ≤ maxLen; rw [size_toList]; exact hL.n2⟩
  have NA := Lib.hid (fun W (h : Below w.heap.size w W) => dname_pk p.name W n0 (hI.below h))
  have FA := Lib.hid (fun W (h : Below w.heap.size w W) => dfile_pk p.name W n0 (hI.below h))
  have EA := Lib.hid (fun W => evmay_pk p W hw)
  rw [ok.nm] at NA
  rw [ok.nf] at FA
  rw [ok.ev] at EA
  have AA := Lib.hid (fun W => archname1 W)
  have PA := Lib.hid (fun W (h : Below w.heap.size w W) => everydep_any p.prov p.provA p.provC W (hI.below h) ((hL.prov.below h).more h.size) hL.provW)
  have OA := Lib.hid (fun W (h : Below w.heap.size w W) => everydep_any p.obs p.obsA p.obsC W (hI.below h) ((hL.obs.below h).more h.size) hL.obsW)
  have SA := Lib.hid (fun W (h : Below w.heap.size w W) => everystr_any p.files p.filesA p.filesC W (hI.below h) ((hL.files.below h).more h.size) hL.filesW)
  rw [ok.pv] at PA
  rw [ok.ob] at OA
  rw [ok.fi] at SA
  unfold mayF at PA OA
  unfold fileF at SA
  obtain ⟨fb, fo, hA, hfb, e0⟩ := hL.files.at1 (f := fun s => Value.string s) (fun _ => rfl) (show 0 < p.files.length by have := ok.f1; omega)
  generalize p.files[0]'(show 0 < p.files.length by have := ok.f1; omega) = f0 at *
  have hvn : ¬ (64 : Int) < (p.vendor.size : Int) := by have := ok.vn; omega
  have hf1 := ok.f1
  have har := ok.ar
  have EM := Lib.hid ok.em
  have LI := Lib.hid (fun W => pklists_any p W)
  have b1 := ((Below.refl w.heap.size w).alloc (Nat.le_refl _) (.cells #[.string p.name, .int .i64 p.epoch, .string p.ver, .string p.rel, .int .u8 p.arch, .string p.vendor, .slice p.provA p.prov.length p.provC, .slice p.reqA p.req.length p.reqC, .slice p.conA p.con.length p.conC, .slice p.obsA p.obs.length p.obsC, .slice p.rcmA p.rcm.length p.rcmC, .slice p.supA p.sup.length p.supC, .slice p.sugA p.sug.length p.sugC, .slice p.enhA p.enh.length p.enhC, .slice p.filesA p.files.length p.filesC] 33)).alloc (by simp) (.cells #[.bool false] 4)
  have hP := (PkAt.new w p).calls ((Below.refl _ _).alloc (Nat.le_refl _) (.cells #[.bool false] 4))
  have hR := Boxed.new (w.alloc (.cells #[.string p.name, .int .i64 p.epoch, .string p.ver, .string p.rel, .int .u8 p.arch, .string p.vendor, .slice p.provA p.prov.length p.provC, .slice p.reqA p.req.length p.reqC, .slice p.conA p.con.length p.conC, .slice p.obsA p.obs.length p.obsC, .slice p.rcmA p.rcm.length p.rcmC, .slice p.supA p.sup.length p.supC, .slice p.sugA p.sug.length p.sugC, .slice p.enhA p.enh.length p.enhC, .slice p.filesA p.files.length p.filesC] 33)) 4 (.bool false)
  have hs : (w.alloc (.cells #[.string p.name, .int .i64 p.epoch, .string p.ver, .string p.rel, .int .u8 p.arch, .string p.vendor, .slice p.provA p.prov.length p.provC, .slice p.reqA p.req.length p.reqC, .slice p.conA p.con.length p.conC, .slice p.obsA p.obs.length p.obsC, .slice p.rcmA p.rcm.length p.rcmC, .slice p.supA p.sup.length p.supC, .slice p.sugA p.sug.length p.sugC, .slice p.enhA p.enh.length p.enhC, .slice p.filesA p.files.length p.filesC] 33)).heap.size = w.heap.size + 1 := by simp
  rw [hs] at hR
  clear hs hI hL ok n0 hw
  unfold Pk.val
  unfold Pk.val at LI
  rw [har, hA, hf1] at b1 hR LI hP ⊢
  rw [hA, hf1] at SA
  refine callsIn_of_wp_marks Tryd.func6 rfl trivial ?_ rfl
  simp only [Tryd.ntmps6, List.size_toArray, List.length_cons, List.length_nil, Nat.reduceAdd, Nat.reduceSub, Array.replicate_succ, Array.replicate_zero, List.push_toArray, List.append_toArray, List.nil_append, List.cons_append]
  skip
  gi_wp2_with fail
  refine ⟨trivial, ?_⟩
  gi_at_call 10
  refine (callsIn_wide.2 (NA.out _ b1)).mono ?_
  rintro e wn ⟨rfl, h⟩
  have b1 := b1.trans (h.mono b1.size)
  have hP := hP.calls h
  have hR := Boxed.calls (t := 4) (v := .bool false) hR h
  clear h
  obtain ⟨hl, c0, c1, c2, c3, c4, c5, c6, c7, c8, c9, c10, c11, c12, c13, c14⟩ := id hP
  rw [har] at c4
  rw [hA, hf1] at c14
  gi_wp2_with fail
  refine ⟨trivial, ?_⟩
  gi_at_call 11
  refine (callsIn_wide.2 (FA.out _ b1)).mono ?_
  rintro e wn ⟨rfl, h⟩
  have b1 := b1.trans (h.mono b1.size)
  have hP := hP.calls h
  have hR := Boxed.calls (t := 4) (v := .bool false) hR h
  clear h
  obtain ⟨hl, c0, c1, c2, c3, c4, c5, c6, c7, c8, c9, c10, c11, c12, c13, c14⟩ := id hP
  rw [har] at c4
  rw [hA, hf1] at c14
  gi_wp2_with fail
  refine ⟨trivial, ?_⟩
  gi_at_call 12
  refine (callsIn_wide.2 (EA.out _)).mono ?_
  rintro e wn ⟨rfl, h⟩
  have b1 := b1.trans (h.mono b1.size)
  have hP := hP.calls h
  have hR := Boxed.calls (t := 4) (v := .bool false) hR h
  clear h
  obtain ⟨hl, c0, c1, c2, c3, c4, c5, c6, c7, c8, c9, c10, c11, c12, c13, c14⟩ := id hP
  rw [har] at c4
  rw [hA, hf1] at c14
  gi_wp2_with fail
  refine ⟨trivial, ?_⟩
  gi_at_call 13
  refine (callsIn_wide.2 (AA.out _)).mono ?_
  rintro e wn ⟨rfl, h⟩
  have b1 := b1.trans (h.mono b1.size)
  have hP := hP.calls h
  have hR := Boxed.calls (t := 4) (v := .bool false) hR h
  clear h
  obtain ⟨hl, c0, c1, c2, c3, c4, c5, c6, c7, c8, c9, c10, c11, c12, c13, c14⟩ := id hP
  rw [har] at c4
  rw [hA, hf1] at c14
  gi_wp2_with fail
  refine ⟨trivial, ?_⟩
  gi_at_call 14
  refine (callsIn_wide.2 (PA.out _ b1)).mono ?_
  rintro e wn ⟨rfl, h⟩
  have b1 := b1.trans (h.mono b1.size)
  have hP := hP.calls h
  have hR := Boxed.calls (t := 4) (v := .bool false) hR h
  clear h
  obtain ⟨hl, c0, c1, c2, c3, c4, c5, c6, c7, c8, c9, c10, c11, c12, c13, c14⟩ := id hP
  rw [har] at c4
  rw [hA, hf1] at c14
  gi_wp2_with fail
  refine ⟨trivial, ?_⟩
  gi_at_call 14
  refine (callsIn_wide.2 (OA.out _ b1)).mono ?_
  rintro e wn ⟨rfl, h⟩
  have b1 := b1.trans (h.mono b1.size)
  have hP := hP.calls h
  have hR := Boxed.calls (t := 4) (v := .bool false) hR h
  clear h
  obtain ⟨hl, c0, c1, c2, c3, c4, c5, c6, c7, c8, c9, c10, c11, c12, c13, c14⟩ := id hP
  rw [har] at c4
  rw [hA, hf1] at c14
  gi_wp2_with fail
  refine ⟨trivial, ?_⟩
  gi_at_call 16
  refine (callsIn_wide.2 (SA.out _ b1)).mono ?_
  rintro e wn ⟨rfl, h⟩
  have b1 := b1.trans (h.mono b1.size)
  have hP := hP.calls h
  have hR := Boxed.calls (t := 4) (v := .bool false) hR h
  clear h
  obtain ⟨hl, c0, c1, c2, c3, c4, c5, c6, c7, c8, c9, c10, c11, c12, c13, c14⟩ := id hP
  rw [har] at c4
  rw [hA, hf1] at c14
  have g0 : wn.cell? ⟨fb, fo, none⟩ = some (.string f0) := (b1.cell (p := ⟨fb, fo, none⟩) hfb).trans e0
  gi_wp2_with fail
  refine wpIn_loop_rounds 2 ?_
  rw [roundsIn_succ]
  gi_wp2_with fail
  rw [roundsIn_succ]
  gi_wp2_with fail
  refine ⟨trivial, ?_⟩
  gi_at_call 17
  refine (callsIn_wide.2 (LI.out _)).mono ?_
  rintro e wl ⟨rfl, rfl⟩
  have hPL := PkAt.new wn p
  rw [har, hA, hf1] at hPL
  have hB2 := b1.alloc b1.size (.cells #[.string p.name, .int .i64 p.epoch, .string p.ver, .string p.rel, .int .u8 1, .string p.vendor, .slice p.provA p.prov.length p.provC, .slice p.reqA p.req.length p.reqC, .slice p.conA p.con.length p.conC, .slice p.obsA p.obs.length p.obsC, .slice p.rcmA p.rcm.length p.rcmC, .slice p.supA p.sup.length p.supC, .slice p.sugA p.sug.length p.sugC, .slice p.enhA p.enh.length p.enhC, .slice (some ⟨fb, fo, none⟩) 1 p.filesC] 33)
  have hR2 := Boxed.alloc (t := 4) (v := .bool false) hR (.cells #[.string p.name, .int .i64 p.epoch, .string p.ver, .string p.rel, .int .u8 1, .string p.vendor, .slice p.provA p.prov.length p.provC, .slice p.reqA p.req.length p.reqC, .slice p.conA p.con.length p.conC, .slice p.obsA p.obs.length p.obsC, .slice p.rcmA p.rcm.length p.rcmC, .slice p.supA p.sup.length p.supC, .slice p.sugA p.sug.length p.sugC, .slice p.enhA p.enh.length p.enhC, .slice (some ⟨fb, fo, none⟩) 1 p.filesC] 33)
  gi_wp2_with fail
  clear hP hR c0 c1 c2 c3 c4 c5 c6 c7 c8 c9 c10 c11 c12 c13 c14 NA FA EA AA PA OA SA LI
  refine wpIn_rangeFunc_ownH rfl (by decide) (gf := 36) (lb := #[.pointer (some ⟨wn.heap.size, 0, none⟩)]) rfl trivial (enters_of Tryd.func36 (by kernel_rfl) rfl) (lists_stops 7 wn.heap.size p _ hPL) kp_t (kp_b (by simp)) (Below.refl _ _) (fun _ => rfl) (MI (wn.alloc (.cells #[.string p.name, .int .i64 p.epoch, .string p.ver, .string p.rel, .int .u8 1, .string p.vendor, .slice p.provA p.prov.length p.provC, .slice p.reqA p.req.length p.reqC, .slice p.conA p.con.length p.conC, .slice p.obsA p.obs.length p.obsC, .slice p.rcmA p.rcm.length p.rcmC, .slice p.supA p.sup.length p.supC, .slice p.sugA p.sug.length p.sugC, .slice p.enhA p.enh.length p.enhC, .slice (some ⟨fb, fo, none⟩) 1 p.filesC] 33)) p) (MX p) (MI_own _ p) (fun c => MX_own p c) (Below.refl _ _) (fun x a' W => ∃ b, a' = { tmps := #[Value.agg #[Value.string p.name, Value.int IntKind.i64 p.epoch, Value.string p.ver, Value.string p.rel, Value.int IntKind.u8 1, Value.string p.vendor, Value.slice p.provA p.prov.length p.provC, Value.slice p.reqA p.req.length p.reqC, Value.slice p.conA p.con.length p.conC, Value.slice p.obsA p.obs.length p.obsC, Value.slice p.rcmA p.rcm.length p.rcmC, Value.slice p.supA p.sup.length p.supC, Value.slice p.sugA p.sug.length p.sugC, Value.slice p.enhA p.enh.length p.enhC, Value.slice (some { block := fb, off := fo }) 1 p.filesC], Value.pointer (some { block := w.heap.size, off := 0 }), Value.pointer (some { block := w.heap.size + 1, off := 0 }), Value.int IntKind.i64 0, Value.string f0, .pointer (some ⟨b, 0, none⟩), .slice x.1.A x.1.l.length x.1.c, Value.bool false, Value.pointer (some { block := w.heap.size, off := 0 }), Value.string p.name, Value.bool true, Value.bool false, Value.bool false, Value.pointer (some { block := w.heap.size, off := 0 }), Value.string p.name, Value.bool false, Value.bool false, Value.bool false, Value.pointer (some { block := w.heap.size, off := 1 }), Value.agg #[Value.int IntKind.i64 p.epoch, Value.string p.ver, Value.string p.rel], Value.bool true, Value.bool false, Value.bool false, Value.bool (decide ((64 : Int) < (p.vendor.size : Int))), Value.pointer (some { block := w.heap.size, off := 4 }), Value.int IntKind.u8 1, Value.string { data := #[110, 111, 97, 114, 99, 104] }, Value.bool false, Value.bool false, Value.pointer (some { block := w.heap.size, off := 5 }), Value.string p.vendor, Value.int IntKind.i64 ↑p.vendor.size, Value.bool (decide ((64 : Int) < (p.vendor.size : Int))), Value.bool (decide ((64 : Int) < (p.vendor.size : Int))), Value.bool false, Value.pointer (some { block := w.heap.size, off := 6 }), Value.slice p.provA p.prov.length p.provC, Value.bool true, Value.bool false, Value.bool false, Value.pointer (some { block := w.heap.size, off := 9 }), Value.slice p.obsA p.obs.length p.obsC, Value.bool true, Value.bool false, Value.bool false, Value.bool false, Value.pointer (some { block := w.heap.size, off := 14 }), Value.slice (some { block := fb, off := fo }) 1 p.filesC, Value.bool true, Value.bool false, Value.bool false, Value.pointer (some { block := w.heap.size, off := 14 }), Value.slice (some { block := fb, off := fo }) 1 p.filesC, Value.int IntKind.i64 1, Value.int IntKind.i64 1, Value.bool false, Value.int IntKind.i64 0, Value.pointer (some { block := fb, off := fo }), Value.string f0, Value.int IntKind.i64 0, Value.bool false, Value.bool false, undef, undef, undef, undef, undef, undef, undef, undef, Value.bool false, Value.int IntKind.i64 1, Value.agg #[Value.string p.name, Value.int IntKind.i64 p.epoch, Value.string p.ver, Value.string p.rel, Value.int IntKind.u8 1, Value.string p.vendor, Value.slice p.provA p.prov.length p.provC, Value.slice p.reqA p.req.length p.reqC, Value.slice p.conA p.con.length p.conC, Value.slice p.obsA p.obs.length p.obsC, Value.slice p.rcmA p.rcm.length p.rcmC, Value.slice p.supA p.sup.length p.supC, Value.slice p.sugA p.sug.length p.sugC, Value.slice p.enhA p.enh.length p.enhC, Value.slice (some { block := fb, off := fo }) 1 p.filesC], Value.func (Fn.func 36) #[] #[Value.pointer (some { block := wn.heap.size, off := 0 })], .int .u8 x.1.wh, .slice x.1.A x.1.l.length x.1.c, undef, undef, undef, undef], defers := [] } ∧ WBox x.1.wh b W) (fun x a' => wbox_own _ x.1.wh a' _) ?assign ?body ?done ?stop
  case assign =>
    rintro l pre x W K hBW hK
    unfold lxArgs
    gi_wp2
    refine hK _ _ ((KeepsOthers.alloc _ _).from _) (kp_alloc (mi_lt hBW)) (Below.alloc hBW hBW.size _) ⟨W.heap.size, rfl, World.alloc_heap_new _ _⟩
  case body =>
    rintro l pre x a' W hl0 hl1 hBW ⟨b, rfl, hb⟩ hlt
    have hx := Boxed.cell (t := 5) (v := .int .u8 x.1.wh) hb
    have e0 := EM.out x.1 x.2
    have h1n : 1 ≤ 8 - 1 - 1 := by decide
    obtain ⟨⟨wh, xA, xc, xl⟩, hx0⟩ := x
    dsimp only at e0 hx ⊢
    rw [e0]
    clear e0
    gi_wp2_with fail
    refine ⟨trivial, ?_⟩
    gi_at_call 18
    refine (CallsIn.inRound l (callsIn_wide.2 (everyrich_nil _ _ xA xc W))).mono ?_
    rintro e w9 ⟨rfl, h⟩
    gi_wp2
    exact ⟨(KeepsOthers.of_grownBy (grown_below h) (fun _ _ h => by cases h)).from _, kp_calls (mi_lt hBW) h, Below.trans hBW (h.mono hBW.size)⟩
  case done =>
    rintro D ys W hD rfl hBW hK
    have hRW := Boxed.calls (t := 4) (v := .bool false) hR2 hBW
    have hc := hRW.cell
    have hf := hRW.frozen
    gi_wp2
    refine ⟨by simp, .inl ⟨_, _, rfl, run_takeDeferred ((KeepsOthers.setCell _ _ _).same D _ hK rfl), ?_⟩⟩
    have hlt := hR2.lt
    have hD2 : w.heap.size + 1 ≠ D := by have := hD; omega
    have hc2 : ((W.setCell ⟨w.heap.size + 1, 0, none⟩ (.bool true)).putObj D (.deferred none)).cell? ⟨w.heap.size + 1, 0, none⟩ = some (.bool true) := (World.cell?_of_block (World.putObj_heap_other hD2)).trans (World.cell?_setCell_same _ _ _ hc)
    have hBf := (hB2.trans (Below.mono hBW hB2.size)).setCell (p := ⟨w.heap.size + 1, 0, none⟩) (by simp) (.bool true)
    exact ⟨.bool true, by simp [results, Tryd.results6, go_sem, hc2], rfl, hBf.trans (belowK_b (Nat.le_refl _) _ D _ _ (by have := hB2.size; omega) ((KeepsOthers.setCell _ _ _).same D _ hK rfl) rfl rfl)⟩
  case stop =>
    rintro D c pre W hD hpre h hK
    exact h.elim
theorem pkmay_one (p : Pk) (w : World) (hI : PkIn w) (hL : p.Laid w.heap.size w) (ok : p.ok1) : Calls Tryd.prog 6 #[p.val] w fun e w' => e = .returned (.bool true) ∧ Below w.heap.size w w' := callsIn_wide.1 (pkmay_in p w hI hL ok)
end Go.Proofs.YtcpjignlhlcnpaaDoor
